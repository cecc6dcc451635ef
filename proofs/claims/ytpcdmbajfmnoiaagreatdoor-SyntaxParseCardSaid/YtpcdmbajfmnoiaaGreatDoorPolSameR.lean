/- gatepostref12.SameRule: whether two rules are the same. Condition: sizes. Printed by gen_psrule.py. -/
import Derived.Test.YtpcdmbajfmnoiaaGreatDoorPolSame
import Derived.Test.YtpcdmbajfmnoiaaGreatDoorPolTRS
import Derived.BigQuiet
import Derived.Test.YtpcdmbajfmnoiaaGreatDoorOrderT
import Derived.Test.YtpcdmbajfmnoiaaGreatDoorPolLongR
namespace Go.Proofs.YtpcdmbajfmnoiaaGreatDoor
set_option linter.unusedVariables false
set_option linter.unusedSimpArgs false
open Go.RowKit Go.Sort
theorem take_next{α:Type}{L M:List α}{k:Nat}(hL:k<L.length)(hM:k<M.length)(h:L.take k=M.take k)(he:L[k]=M[k]):L.take (k+1)=M.take (k+1):=by
 rw[List.take_succ_eq_append_getElem hL,List.take_succ_eq_append_getElem hM,h,he]
theorem take_not{α:Type}{L M:List α}{k:Nat}(hL:k<L.length)(hM:k<M.length)(he:L[k]≠M[k]):L≠M:=by
 rintro rfl
 exact he rfl
theorem take_end{α:Type}{L M:List α}(hl:L.length=M.length)(h:L.take L.length=M.take L.length):L=M:=by
 rw[List.take_of_length_le (Nat.le_refl _),List.take_of_length_le (by omega)] at h
 exact h
theorem below_drewN{B:Nat}{a b:World}(h:Below B a b)(q:Nat):Below B a (b.drewN q):=⟨h.os,h.tape,h.output,h.size,h.block⟩
theorem RdR.inE{w:World}{B n k:Nat}{A:Option Addr}{L:List Int}(h:RdR inC 1 w B A n L)(hk:k<L.length):∃b off,A=some ⟨b,off,none⟩∧b<B∧w.cell? ⟨b,off+k,none⟩=some (.int .i64 L[k]):=by
 obtain⟨hl,h⟩:=h
 obtain⟨b,off,h1,h2,h3⟩:=h (by omega)
 have:=h3 k hk 0 _ rfl
 rw[Nat.mul_one,Nat.add_zero] at this
 exact⟨b,off,h1,h2,this⟩
def SrB(w u:World)(cs ds:List Value):Prop:=Blk u w.heap.size 50 cs∧Blk u (w.heap.size+1) 50 ds∧Below w.heap.size w u
set_option maxRecDepth 100000 in
set_option maxHeartbeats 4000000 in
theorem sameRule_any(r s:Ru)(cs ds:List Value)(w:World)(h:RuP w w.heap.size cs r)(hs:RuP w w.heap.size ds s)(hok:okRu r)(hok2:okRu s) :
  Calls Tryz.prog 61 #[.agg cs.toArray,.agg ds.toArray] w fun e w'=>e=.returned (.bool (decide (r=s)))∧Below w.heap.size w w':=by
 obtain⟨A1,n1,c1,A2,n2,c2,A3,n3,c3,rfl,h1,h2,h3⟩:=vals_ru h
 obtain⟨D1,m1,i1,D2,m2,i2,D3,m3,i3,rfl,g1,g2,g3⟩:=vals_ru hs
 have l1:=h1.1;have l2:=h2.1;have l3:=h3.1
 have j1:=g1.1;have j2:=g2.1;have j3:=g3.1
 have H1:=Lib.hid h1;have H2:=Lib.hid h2;have H3:=Lib.hid h3
 have G1:=Lib.hid g1;have G2:=Lib.hid g2;have G3:=Lib.hid g3
 have L1:=Lib.hid l1;have L2:=Lib.hid l2;have L3:=Lib.hid l3
 have J1:=Lib.hid j1;have J2:=Lib.hid j2;have J3:=Lib.hid j3
 have i45:(Tryz.prog.info? 56).map (·.size)=some 3:=by kernel_rfl
 have i33:(Tryz.prog.info? 45).map (·.size)=some 4:=by kernel_rfl
 have I45:=Lib.hid i45;have I33:=Lib.hid i33;clear i45 i33
 have OK:=Lib.hid hok;have OK2:=Lib.hid hok2
 obtain⟨v,hv⟩:∃v,decide (r=s)=v:=⟨_,rfl⟩
 rw[hv]
 have HV:=Lib.hid hv
 have hno:r≠s→v=false:=fun h=>by rw[←hv];exact decide_eq_false h
 have HNO:=Lib.hid hno
 have eqs:r=s↔(r.froms=s.froms∧r.tos=s.tos∧r.whens=s.whens):=by obtain⟨a,b,c⟩:=r;obtain⟨a',b',c'⟩:=s;simp
 have EQS:=Lib.hid eqs
 show Calls Tryz.prog 61 #[.agg #[.slice A1 n1 c1,.slice A2 n2 c2,.slice A3 n3 c3],.agg #[.slice D1 m1 i1,.slice D2 m2 i2,.slice D3 m3 i3]] w _
 clear h h1 h2 h3 g1 g2 g3 l1 l2 l3 j1 j2 j3 hok hok2 hs hv hno eqs
 obtain⟨wb,hwb⟩:∃wb,(w.alloc (.cells #[.slice A1 n1 c1,.slice A2 n2 c2,.slice A3 n3 c3] 50)).alloc (.cells #[.slice D1 m1 i1,.slice D2 m2 i2,.slice D3 m3 i3] 50)=wb:=⟨_,rfl⟩
 have b0:SrB w wb [.slice A1 n1 c1,.slice A2 n2 c2,.slice A3 n3 c3] [.slice D1 m1 i1,.slice D2 m2 i2,.slice D3 m3 i3]:=by
  rw[←hwb]
  exact⟨(Blk.newAt rfl _ #[.slice A1 n1 c1,.slice A2 n2 c2,.slice A3 n3 c3]).alloc _,Blk.newAt (by simp) _ #[.slice D1 m1 i1,.slice D2 m2 i2,.slice D3 m3 i3],((Below.refl _ w).alloc (Nat.le_refl _) _).alloc (by simp) _⟩
 have B0:=Lib.hid b0
 obtain⟨ka,kb,f0⟩:=b0
 have x0:=ka.cell 0;have x1:=ka.cell 1;have x2:=ka.cell 2
 have y0:=kb.cell 0;have y1:=kb.cell 1;have y2:=kb.cell 2
 clear ka kb
 by_cases hc1:n1=m1
 rotate_left
 ·have d1:((n1:Int) !=(m1:Int))=true:=by simp;omega
  obtain rfl:v=false:=HNO.out fun e=>hc1 (by rw[←L1.out,←J1.out,e])
  go_enter Tryz.func61,Tryz.ntmps61
  go_wp2_with fail
  go_ret
  exact⟨rfl,f0⟩
 subst hc1
 have d1:((n1:Int) !=(n1:Int))=false:=by simp
 by_cases hc2:n2=m2
 rotate_left
 ·have d2:((n2:Int) !=(m2:Int))=true:=by simp;omega
  obtain rfl:v=false:=HNO.out fun e=>hc2 (by rw[←L2.out,←J2.out,e])
  go_enter Tryz.func61,Tryz.ntmps61
  go_wp2_with fail
  go_ret
  exact⟨rfl,f0⟩
 subst hc2
 have d2:((n2:Int) !=(n2:Int))=false:=by simp
 by_cases hc3:n3=m3
 rotate_left
 ·have d3:((n3:Int) !=(m3:Int))=true:=by simp;omega
  obtain rfl:v=false:=HNO.out fun e=>hc3 (by rw[←L3.out,←J3.out,e])
  go_enter Tryz.func61,Tryz.ntmps61
  go_wp2_with fail
  go_ret
  exact⟨rfl,f0⟩
 subst hc3
 have d3:((n3:Int) !=(n3:Int))=false:=by simp
 have hN1:n1≤1000000:=by rw[←L1.out];exact OK.out.1.1
 have hN2:n2≤1000000:=by rw[←L2.out];exact OK.out.2.1.1
 have hN3:n3≤1000000:=by rw[←L3.out];exact OK.out.2.2.1
 go_enter Tryz.func61,Tryz.ntmps61
 go_wp2_with fail
 clear x0 x1 x2 y0 y1 y2 d1 d2 d3 hwb
 go_loopw [5] (fun vi wr=>∃(k:Nat),vi=.int .i64 k∧k≤n1∧SrB w wr [.slice A1 n1 c1,.slice A2 n2 c2,.slice A3 n3 c3] [.slice D1 n1 i1,.slice D2 n2 i2,.slice D3 n3 i3]∧r.froms.take k=s.froms.take k) (fun vi _=>n1-(intOf vi).toNat)
 case atStart=>exact⟨0,rfl,Nat.zero_le _,B0.out,rfl⟩
 case round =>
  obtain⟨k,rfl,hk,b2,heq⟩:=hrel
  have HEQ:=Lib.hid heq;clear heq
  by_cases hlt:k<n1
  ·have d1:decide ((k:Int)<(n1:Int))=true:=by simp;omega
   have z1:(0:Int)≤(k:Int):=by omega
   have z2:(k:Int)<(n1:Int):=by omega
   have hkR:k<r.froms.length:=by rw[L1.out];exact hlt
   have hkS:k<s.froms.length:=by rw[J1.out];exact hlt
   have HB:=Lib.hid b2
   obtain⟨ka,kb,f1⟩:=b2
   obtain⟨b,off,cs,rfl,p2,p3,p4,p5⟩:=(H1.out.mono (Nat.le_refl _) f1 (fun _ _ h=>SrP.mono h (Nat.le_refl _) f1)).at_ hlt
   obtain⟨b',off',cs',rfl,p2',p3',p4',p5'⟩:=(G1.out.mono (Nat.le_refl _) f1 (fun _ _ h=>SrP.mono h (Nat.le_refl _) f1)).at_ hlt
   obtain⟨x,hx⟩:∃x,r.froms[k]=x:=⟨_,rfl⟩
   obtain⟨y,hy⟩:∃y,s.froms[k]=y:=⟨_,rfl⟩
   have okx:=OK.out.1.2 _ (List.getElem_mem hkR)
   have oky:=OK2.out.1.2 _ (List.getElem_mem hkS)
   rw[hx] at p4 okx
   rw[hy] at p4' oky
   have HX:=Lib.hid hx;have HY:=Lib.hid hy
   have e0:wr.cell? ⟨w.heap.size,0,none⟩=some (.slice (some ⟨b,off,none⟩) n1 c1):=ka.cell 0
   have e1:wr.cell? ⟨w.heap.size+1,0,none⟩=some (.slice (some ⟨b',off',none⟩) n1 i1):=kb.cell 0
   clear hx hy
   obtain⟨B1,m1,y1,B2,m2,y2,B3,m3,y3,rfl,q1,q2,q3⟩:=vals_sr p4
   obtain⟨B1',m1',y1',B2',m2',y2',B3',m3',y3',rfl,q1',q2',q3'⟩:=vals_sr p4'
   have g0:wr.cell? ⟨b,off+k*3,none⟩=some (.slice B1 m1 y1):=p5 0 _ rfl
   have g1:wr.cell? ⟨b,off+k*3+1,none⟩=some (.slice B2 m2 y2):=p5 1 _ rfl
   have g2:wr.cell? ⟨b,off+k*3+2,none⟩=some (.slice B3 m3 y3):=p5 2 _ rfl
   have g0':wr.cell? ⟨b',off'+k*3,none⟩=some (.slice B1' m1' y1'):=p5' 0 _ rfl
   have g1':wr.cell? ⟨b',off'+k*3+1,none⟩=some (.slice B2' m2' y2'):=p5' 1 _ rfl
   have g2':wr.cell? ⟨b',off'+k*3+2,none⟩=some (.slice B3' m3' y3'):=p5' 2 _ rfl
   clear p5 p5' p4 p4' p3 p3'
   go_upto_region 6 with fail
   go_cut [6,7] (fun v6 v7 wx=>∃ga gb,v6=.pointer (some ⟨ga,0,none⟩)∧v7=.pointer (some ⟨gb,0,none⟩)∧Blk wx ga 56 [.slice B1 m1 y1,.slice B2 m2 y2,.slice B3 m3 y3]∧Blk wx gb 56 [.slice B1' m1' y1',.slice B2' m2' y2',.slice B3' m3' y3']∧Below wr.heap.size wr wx)
   case first =>
    rename_i J0 K0 hj0 hk0
    have fS:∀u,Below wr.heap.size wr u→CsS [(⟨w.heap.size,0,none⟩,.slice (some ⟨b,off,none⟩) n1 c1),(⟨w.heap.size+1,0,none⟩,.slice (some ⟨b',off',none⟩) n1 i1),(⟨b,off+k*3,none⟩,.slice B1 m1 y1),(⟨b,off+k*3+1,none⟩,.slice B2 m2 y2),(⟨b,off+k*3+2,none⟩,.slice B3 m3 y3),(⟨b',off'+k*3,none⟩,.slice B1' m1' y1'),(⟨b',off'+k*3+1,none⟩,.slice B2' m2' y2'),(⟨b',off'+k*3+2,none⟩,.slice B3' m3' y3')] u:=fun u hu=>CsS.below (u:=wr) ⟨e0,e1,g0,g1,g2,g0',g1',g2',trivial⟩ hu
    refine wp_region_tree (fun u=>Below wr.heap.size wr u) (.take 0 (.take 1 (.take 2 (.take 3 (.take 4 (.take 5 (.take 6 (.take 7 (.take 8 (.take 9 (.both 10 11 (.only 11 (.only 12 (.only 13 .fin))) (.only 10 (.only 12 (.only 13 .fin)))))))))))))) (by kernel_rfl) (by kernel_rfl) ?_
    have hS:Below wr.heap.size wr wr.drew:=(Below.refl _ _).drew
    have hbL:=hS.size
    generalize wr.drew=wd at *
    refine wpT_take (v:=?_) rfl hS rfl ?_ (fun _ _ _ h=>h) ?_
    rotate_left
    ·intro w' hS'
     obtain⟨e0,e1,g0,g1,g2,g0',g1',g2',_⟩:=fS w' hS'
     go_simp<;>rfl
    go_simp
    refine wpT_take (v:=?_) rfl hS rfl ?_ (fun _ _ _ h=>h) ?_
    rotate_left
    ·intro w' hS'
     obtain⟨e0,e1,g0,g1,g2,g0',g1',g2',_⟩:=fS w' hS'
     go_simp<;>rfl
    go_simp
    refine wpT_take (v:=?_) rfl hS rfl ?_ (fun _ _ _ h=>h) ?_
    rotate_left
    ·intro w' hS'
     obtain⟨e0,e1,g0,g1,g2,g0',g1',g2',_⟩:=fS w' hS'
     go_simp<;>rfl
    go_simp
    refine wpT_take (v:=?_) rfl hS rfl ?_ (fun _ _ _ h=>h) ?_
    rotate_left
    ·intro w' hS'
     obtain⟨e0,e1,g0,g1,g2,g0',g1',g2',_⟩:=fS w' hS'
     go_simp<;>rfl
    go_simp
    refine wpT_take (v:=?_) rfl hS rfl ?_ (fun _ _ _ h=>h) ?_
    rotate_left
    ·intro w' hS'
     obtain⟨e0,e1,g0,g1,g2,g0',g1',g2',_⟩:=fS w' hS'
     go_simp<;>rfl
    go_simp
    refine wpT_take (v:=?_) rfl hS rfl ?_ (fun _ _ _ h=>h) ?_
    rotate_left
    ·intro w' hS'
     obtain⟨e0,e1,g0,g1,g2,g0',g1',g2',_⟩:=fS w' hS'
     go_simp<;>rfl
    go_simp
    refine wpT_take (v:=?_) rfl hS rfl ?_ (fun _ _ _ h=>h) ?_
    rotate_left
    ·intro w' hS'
     obtain⟨e0,e1,g0,g1,g2,g0',g1',g2',_⟩:=fS w' hS'
     go_simp<;>rfl
    go_simp
    refine wpT_take (v:=?_) rfl hS rfl ?_ (fun _ _ _ h=>h) ?_
    rotate_left
    ·intro w' hS'
     obtain⟨e0,e1,g0,g1,g2,g0',g1',g2',_⟩:=fS w' hS'
     go_simp<;>rfl
    go_simp
    refine wpT_take (v:=?_) rfl hS rfl ?_ (fun _ _ _ h=>h) ?_
    rotate_left
    ·intro w' hS'
     obtain⟨e0,e1,g0,g1,g2,g0',g1',g2',_⟩:=fS w' hS'
     go_simp<;>rfl
    go_simp
    refine wpT_take (v:=?_) rfl hS rfl ?_ (fun _ _ _ h=>h) ?_
    rotate_left
    ·intro w' hS'
     obtain⟨e0,e1,g0,g1,g2,g0',g1',g2',_⟩:=fS w' hS'
     go_simp<;>rfl
    go_simp
    refine wpT_both ?_ ?_
    ·refine oneT_run rfl rfl (fun M hM=>?_)
     go_wp2_with fail
     refine⟨hS.alloc hbL _,?_⟩
     go_simp
     refine wpT_only (oneT_run rfl rfl (fun M hM=>?_))
     go_wp2_with fail
     have hS2:Below wr.heap.size wr ((wd.alloc (.cells #[.slice none 0 0,.slice none 0 0,.slice none 0 0] 56)).alloc (.cells #[.slice none 0 0,.slice none 0 0,.slice none 0 0] 56)):=(hS.alloc hbL _).alloc (by simp;omega) _
     refine⟨hS2,?_⟩
     go_simp
     have kx:Blk ((wd.alloc (.cells #[.slice none 0 0,.slice none 0 0,.slice none 0 0] 56)).alloc (.cells #[.slice none 0 0,.slice none 0 0,.slice none 0 0] 56)) wd.heap.size 56 [.slice none 0 0,.slice none 0 0,.slice none 0 0]:=(Blk.newAt rfl _ #[.slice none 0 0,.slice none 0 0,.slice none 0 0]).alloc _
     have ky:Blk ((wd.alloc (.cells #[.slice none 0 0,.slice none 0 0,.slice none 0 0] 56)).alloc (.cells #[.slice none 0 0,.slice none 0 0,.slice none 0 0] 56)) (wd.heap.size+1) 56 [.slice none 0 0,.slice none 0 0,.slice none 0 0]:=Blk.newAt (by simp) _ #[.slice none 0 0,.slice none 0 0,.slice none 0 0]
     generalize (wd.alloc (.cells #[.slice none 0 0,.slice none 0 0,.slice none 0 0] 56)).alloc (.cells #[.slice none 0 0,.slice none 0 0,.slice none 0 0] 56)=w5 at *
     refine wpT_only (oneT_run rfl rfl (fun M hM=>?_))
     refine wp_store_blk kx 56 (.tmp 6) (.tmp 49) rfl rfl (us:=[.slice B1 m1 y1,.slice B2 m2 y2,.slice B3 m3 y3]) rfl I45.out rfl rfl ?_
     intro w6 kx6 hg6
     replace ky:=ky.grown hg6 (by intro e;injection e with e;omega)
     have hS6:=hS2.grown hg6 hS2.size (by intro q hq;injection hq with hq;omega)
     refine hM _ _ ⟨hS6,?_⟩
     go_simp
     refine wpT_only (oneT_run rfl rfl (fun M hM=>?_))
     refine wp_store_blk ky 56 (.tmp 7) (.tmp 54) rfl rfl (us:=[.slice B1' m1' y1',.slice B2' m2' y2',.slice B3' m3' y3']) rfl I45.out rfl rfl ?_
     intro w7 ky7 hg7
     have kx7:=kx6.grown hg7 (by intro e;injection e with e;omega)
     have hS7:=hS6.grown hg7 hS6.size (by intro q hq;injection hq with hq;omega)
     refine hM _ _ ⟨hS7,?_⟩
     go_simp
     refine wpT_fin ?_
     first|refine hk0 _ _ (Met.intro (hj0 _ _ ?_))|refine Met.intro (hj0 _ _ ?_)|refine hj0 _ _ ?_
     (repeat apply Exists.intro)
     exact⟨⟨_,_,rfl,rfl,kx7,ky7,hS7⟩,rfl⟩
    refine oneT_run rfl rfl (fun M hM=>?_)
    go_wp2_with fail
    refine⟨hS.alloc hbL _,?_⟩
    go_simp
    refine wpT_only (oneT_run rfl rfl (fun M hM=>?_))
    go_wp2_with fail
    have hS2:Below wr.heap.size wr ((wd.alloc (.cells #[.slice none 0 0,.slice none 0 0,.slice none 0 0] 56)).alloc (.cells #[.slice none 0 0,.slice none 0 0,.slice none 0 0] 56)):=(hS.alloc hbL _).alloc (by simp;omega) _
    refine⟨hS2,?_⟩
    go_simp
    have kx:Blk ((wd.alloc (.cells #[.slice none 0 0,.slice none 0 0,.slice none 0 0] 56)).alloc (.cells #[.slice none 0 0,.slice none 0 0,.slice none 0 0] 56)) wd.heap.size 56 [.slice none 0 0,.slice none 0 0,.slice none 0 0]:=(Blk.newAt rfl _ #[.slice none 0 0,.slice none 0 0,.slice none 0 0]).alloc _
    have ky:Blk ((wd.alloc (.cells #[.slice none 0 0,.slice none 0 0,.slice none 0 0] 56)).alloc (.cells #[.slice none 0 0,.slice none 0 0,.slice none 0 0] 56)) (wd.heap.size+1) 56 [.slice none 0 0,.slice none 0 0,.slice none 0 0]:=Blk.newAt (by simp) _ #[.slice none 0 0,.slice none 0 0,.slice none 0 0]
    generalize (wd.alloc (.cells #[.slice none 0 0,.slice none 0 0,.slice none 0 0] 56)).alloc (.cells #[.slice none 0 0,.slice none 0 0,.slice none 0 0] 56)=w5 at *
    have kt:=kx
    clear kx
    have kx:=ky
    clear ky
    have ky:=kt
    clear kt
    refine wpT_only (oneT_run rfl rfl (fun M hM=>?_))
    refine wp_store_blk kx 56 (.tmp 6) (.tmp 49) rfl rfl (us:=[.slice B1 m1 y1,.slice B2 m2 y2,.slice B3 m3 y3]) rfl I45.out rfl rfl ?_
    intro w6 kx6 hg6
    replace ky:=ky.grown hg6 (by intro e;injection e with e;omega)
    have hS6:=hS2.grown hg6 hS2.size (by intro q hq;injection hq with hq;omega)
    refine hM _ _ ⟨hS6,?_⟩
    go_simp
    refine wpT_only (oneT_run rfl rfl (fun M hM=>?_))
    refine wp_store_blk ky 56 (.tmp 7) (.tmp 54) rfl rfl (us:=[.slice B1' m1' y1',.slice B2' m2' y2',.slice B3' m3' y3']) rfl I45.out rfl rfl ?_
    intro w7 ky7 hg7
    have kx7:=kx6.grown hg7 (by intro e;injection e with e;omega)
    have hS7:=hS6.grown hg7 hS6.size (by intro q hq;injection hq with hq;omega)
    refine hM _ _ ⟨hS7,?_⟩
    go_simp
    refine wpT_fin ?_
    first|refine hk0 _ _ (Met.intro (hj0 _ _ ?_))|refine Met.intro (hj0 _ _ ?_)|refine hj0 _ _ ?_
    (repeat apply Exists.intro)
    exact⟨⟨_,_,rfl,rfl,kx7,ky7,hS7⟩,rfl⟩
   obtain⟨ga,gb,rfl,rfl,kx,ky,f2⟩:=hcut
   have X0:=kx.cell 0
   have Y0:=ky.cell 0
   have X1:=kx.cell 1
   have Y1:=ky.cell 1
   have X2:=kx.cell 2
   have Y2:=ky.cell 2
   have T1:∀u,Below wc.heap.size wc u→Calls Tryz.prog 99 #[.slice B1 m1 y1,.slice B1' m1' y1'] u fun e w'=>e=.returned (.bool (decide (x.names=y.names)))∧∃q,w'=u.drewN q:=fun u hu=>tsame_any B1 B1' m1 y1 m1' y1' x.names y.names u (((q1.below (f2.mono f1.size)).below (hu.mono (by have:=f1.size;have:=f2.size;omega))).more (by have:=f1.size;have:=f2.size;have:=hu.size;omega)) (((q1'.below (f2.mono f1.size)).below (hu.mono (by have:=f1.size;have:=f2.size;omega))).more (by have:=f1.size;have:=f2.size;have:=hu.size;omega)) (by rw[←q1.1];exact okx.1.1) (by rw[←q1'.1];exact oky.1.1)
   have T2:∀u,Below wc.heap.size wc u→Calls Tryz.prog 99 #[.slice B2 m2 y2,.slice B2' m2' y2'] u fun e w'=>e=.returned (.bool (decide (x.spaces=y.spaces)))∧∃q,w'=u.drewN q:=fun u hu=>tsame_any B2 B2' m2 y2 m2' y2' x.spaces y.spaces u (((q2.below (f2.mono f1.size)).below (hu.mono (by have:=f1.size;have:=f2.size;omega))).more (by have:=f1.size;have:=f2.size;have:=hu.size;omega)) (((q2'.below (f2.mono f1.size)).below (hu.mono (by have:=f1.size;have:=f2.size;omega))).more (by have:=f1.size;have:=f2.size;have:=hu.size;omega)) (by rw[←q2.1];exact okx.2.1.1) (by rw[←q2'.1];exact oky.2.1.1)
   have T3:∀u,Below wc.heap.size wc u→Calls Tryz.prog 100 #[.slice B3 m3 y3,.slice B3' m3' y3'] u fun e w'=>e=.returned (.bool (decide (x.nets=y.nets)))∧∃q,w'=u.drewN q:=fun u hu=>nsame_any B3 B3' m3 y3 m3' y3' x.nets y.nets u (((q3.below (f2.mono f1.size)).below (hu.mono (by have:=f1.size;have:=f2.size;omega))).more (by have:=f1.size;have:=f2.size;have:=hu.size;omega)) (((q3'.below (f2.mono f1.size)).below (hu.mono (by have:=f1.size;have:=f2.size;omega))).more (by have:=f1.size;have:=f2.size;have:=hu.size;omega)) (by rw[←q3.1];exact okx.2.2.1) (by rw[←q3'.1];exact oky.2.2.1)
   clear q1 q2 q3 q1' q2' q3' kx ky
   by_cases hd1:x.names=y.names
   rotate_left
   ·rw[decide_eq_false hd1] at T1
    obtain rfl:v=false:=HNO.out fun e=>take_not hkR hkS (by rw[HX.out,HY.out];intro h;exact hd1 (by rw[h])) (by rw[e])
    go_wp2_with fail
    refine (T1 _ (Below.refl _ _)).mono ?_
    rintro e w5 ⟨rfl,qq1,rfl⟩
    go_wp2_with fail
    go_ret
    exact⟨rfl,f1.trans ((f2.trans ((below_drewN (Below.refl _ _) _).mono f2.size)).mono f1.size)⟩
   by_cases hd2:x.spaces=y.spaces
   rotate_left
   ·rw[decide_eq_true hd1] at T1
    rw[decide_eq_false hd2] at T2
    obtain rfl:v=false:=HNO.out fun e=>take_not hkR hkS (by rw[HX.out,HY.out];intro h;exact hd2 (by rw[h])) (by rw[e])
    go_wp2_with fail
    refine (T1 _ (Below.refl _ _)).mono ?_
    rintro e w5 ⟨rfl,qq1,rfl⟩
    go_wp2_with fail
    refine (T2 _ (below_drewN (Below.refl _ _) _)).mono ?_
    rintro e w5 ⟨rfl,qq2,rfl⟩
    go_wp2_with fail
    go_ret
    exact⟨rfl,f1.trans ((f2.trans ((below_drewN (Below.refl _ _) _).mono f2.size)).mono f1.size)⟩
   by_cases hd3:x.nets=y.nets
   rotate_left
   ·rw[decide_eq_true hd1] at T1
    rw[decide_eq_true hd2] at T2
    rw[decide_eq_false hd3] at T3
    obtain rfl:v=false:=HNO.out fun e=>take_not hkR hkS (by rw[HX.out,HY.out];intro h;exact hd3 (by rw[h])) (by rw[e])
    go_wp2_with fail
    refine (T1 _ (Below.refl _ _)).mono ?_
    rintro e w5 ⟨rfl,qq1,rfl⟩
    go_wp2_with fail
    refine (T2 _ (below_drewN (Below.refl _ _) _)).mono ?_
    rintro e w5 ⟨rfl,qq2,rfl⟩
    go_wp2_with fail
    refine (T3 _ (below_drewN (Below.refl _ _) _)).mono ?_
    rintro e w5 ⟨rfl,qq3,rfl⟩
    go_wp2_with fail
    go_ret
    exact⟨rfl,f1.trans ((f2.trans ((below_drewN (Below.refl _ _) _).mono f2.size)).mono f1.size)⟩
   rw[decide_eq_true hd1] at T1
   rw[decide_eq_true hd2] at T2
   rw[decide_eq_true hd3] at T3
   go_wp2_with fail
   refine (T1 _ (Below.refl _ _)).mono ?_
   rintro e w5 ⟨rfl,qq1,rfl⟩
   go_wp2_with fail
   refine (T2 _ (below_drewN (Below.refl _ _) _)).mono ?_
   rintro e w5 ⟨rfl,qq2,rfl⟩
   go_wp2_with fail
   refine (T3 _ (below_drewN (Below.refl _ _) _)).mono ?_
   rintro e w5 ⟨rfl,qq3,rfl⟩
   go_wp2_with fail
   have FW:=f2.trans (Below.mono (below_drewN (Below.refl wc.heap.size wc) (qq1+qq2+qq3)) f2.size)
   have HXY:x=y:=by obtain⟨a,b,c⟩:=x;obtain⟨a2,b2,c2⟩:=y;simp only at hd1 hd2 hd3;rw[hd1,hd2,hd3]
   go_roundw
   case rel=>exact⟨k+1,by go_num,by omega,⟨HB.out.1.below FW (by have:=HB.out.1.lt;omega),HB.out.2.1.below FW (by have:=HB.out.2.1.lt;omega),f1.trans (FW.mono f1.size)⟩,take_next hkR hkS HEQ.out (by rw[HX.out,HY.out];exact HXY)⟩
   case measure=>simp[intOf];omega
  have d1:decide ((k:Int)<(n1:Int))=false:=by simp;omega
  obtain rfl:n1=k:=by omega
  obtain⟨ka,kb,f1⟩:=b2
  have e0:wr.cell? ⟨w.heap.size,0,none⟩=some (.slice A1 n1 c1):=ka.cell 0
  have HQ1:Hid (r.froms=s.froms):=Lib.hid (take_end (by rw[L1.out,J1.out]) (by rw[L1.out];exact HEQ.out))
  clear HEQ d1
  go_wp2_with fail
  clear e0
  go_loopw [8] (fun vi wr=>∃(k:Nat),vi=.int .i64 k∧k≤n2∧SrB w wr [.slice A1 n1 c1,.slice A2 n2 c2,.slice A3 n3 c3] [.slice D1 n1 i1,.slice D2 n2 i2,.slice D3 n3 i3]∧r.tos.take k=s.tos.take k) (fun vi _=>n2-(intOf vi).toNat)
  case atStart=>exact⟨0,rfl,Nat.zero_le _,⟨ka,kb,f1⟩,rfl⟩
  case round =>
   obtain⟨k,rfl,hk,b2,heq⟩:=hrel
   have HEQ:=Lib.hid heq;clear heq
   by_cases hlt:k<n2
   ·have d1:decide ((k:Int)<(n2:Int))=true:=by simp;omega
    have z1:(0:Int)≤(k:Int):=by omega
    have z2:(k:Int)<(n2:Int):=by omega
    have hkR:k<r.tos.length:=by rw[L2.out];exact hlt
    have hkS:k<s.tos.length:=by rw[J2.out];exact hlt
    have HB:=Lib.hid b2
    obtain⟨ka,kb,f1⟩:=b2
    obtain⟨b,off,cs,rfl,p2,p3,p4,p5⟩:=(H2.out.mono (Nat.le_refl _) f1 (fun _ _ h=>TgP.mono h (Nat.le_refl _) f1)).at_ hlt
    obtain⟨b',off',cs',rfl,p2',p3',p4',p5'⟩:=(G2.out.mono (Nat.le_refl _) f1 (fun _ _ h=>TgP.mono h (Nat.le_refl _) f1)).at_ hlt
    obtain⟨x,hx⟩:∃x,r.tos[k]=x:=⟨_,rfl⟩
    obtain⟨y,hy⟩:∃y,s.tos[k]=y:=⟨_,rfl⟩
    have okx:=OK.out.2.1.2 _ (List.getElem_mem hkR)
    have oky:=OK2.out.2.1.2 _ (List.getElem_mem hkS)
    rw[hx] at p4 okx
    rw[hy] at p4' oky
    have HX:=Lib.hid hx;have HY:=Lib.hid hy
    have e0:wr.cell? ⟨w.heap.size,1,none⟩=some (.slice (some ⟨b,off,none⟩) n2 c2):=ka.cell 1
    have e1:wr.cell? ⟨w.heap.size+1,1,none⟩=some (.slice (some ⟨b',off',none⟩) n2 i2):=kb.cell 1
    clear hx hy
    obtain⟨B1,m1,y1,B2,m2,y2,B3,m3,y3,B4,m4,y4,rfl,q1,q2,q3,q4⟩:=vals_tg p4
    obtain⟨B1',m1',y1',B2',m2',y2',B3',m3',y3',B4',m4',y4',rfl,q1',q2',q3',q4'⟩:=vals_tg p4'
    have g0:wr.cell? ⟨b,off+k*4,none⟩=some (.slice B1 m1 y1):=p5 0 _ rfl
    have g0':wr.cell? ⟨b',off'+k*4,none⟩=some (.slice B1' m1' y1'):=p5' 0 _ rfl
    have g1:wr.cell? ⟨b,off+k*4+1,none⟩=some (.slice B2 m2 y2):=p5 1 _ rfl
    have g1':wr.cell? ⟨b',off'+k*4+1,none⟩=some (.slice B2' m2' y2'):=p5' 1 _ rfl
    have g2:wr.cell? ⟨b,off+k*4+2,none⟩=some (.slice B3 m3 y3):=p5 2 _ rfl
    have g2':wr.cell? ⟨b',off'+k*4+2,none⟩=some (.slice B3' m3' y3'):=p5' 2 _ rfl
    have g3:wr.cell? ⟨b,off+k*4+3,none⟩=some (.slice B4 m4 y4):=p5 3 _ rfl
    have g3':wr.cell? ⟨b',off'+k*4+3,none⟩=some (.slice B4' m4' y4'):=p5' 3 _ rfl
    clear p5 p5' p4 p4' p3 p3'
    go_upto_region 12 with fail
    go_cut [9,10] (fun v9 v10 wx=>∃ga gb,v9=.pointer (some ⟨ga,0,none⟩)∧v10=.pointer (some ⟨gb,0,none⟩)∧Blk wx ga 45 [.slice B1 m1 y1,.slice B2 m2 y2,.slice B3 m3 y3,.slice B4 m4 y4]∧Blk wx gb 45 [.slice B1' m1' y1',.slice B2' m2' y2',.slice B3' m3' y3',.slice B4' m4' y4']∧Below wr.heap.size wr wx)
    case first =>
     rename_i J0 K0 hj0 hk0
     have fS:∀u,Below wr.heap.size wr u→CsS [(⟨w.heap.size,1,none⟩,.slice (some ⟨b,off,none⟩) n2 c2),(⟨w.heap.size+1,1,none⟩,.slice (some ⟨b',off',none⟩) n2 i2),(⟨b,off+k*4,none⟩,.slice B1 m1 y1),(⟨b,off+k*4+1,none⟩,.slice B2 m2 y2),(⟨b,off+k*4+2,none⟩,.slice B3 m3 y3),(⟨b,off+k*4+3,none⟩,.slice B4 m4 y4),(⟨b',off'+k*4,none⟩,.slice B1' m1' y1'),(⟨b',off'+k*4+1,none⟩,.slice B2' m2' y2'),(⟨b',off'+k*4+2,none⟩,.slice B3' m3' y3'),(⟨b',off'+k*4+3,none⟩,.slice B4' m4' y4')] u:=fun u hu=>CsS.below (u:=wr) ⟨e0,e1,g0,g1,g2,g3,g0',g1',g2',g3',trivial⟩ hu
     refine wp_region_tree (fun u=>Below wr.heap.size wr u) (.take 0 (.take 1 (.take 2 (.take 3 (.take 4 (.take 5 (.take 6 (.take 7 (.take 8 (.take 9 (.both 10 11 (.only 11 (.only 12 (.only 13 .fin))) (.only 10 (.only 12 (.only 13 .fin)))))))))))))) (by kernel_rfl) (by kernel_rfl) ?_
     have hS:Below wr.heap.size wr wr.drew:=(Below.refl _ _).drew
     have hbL:=hS.size
     generalize wr.drew=wd at *
     refine wpT_take (v:=?_) rfl hS rfl ?_ (fun _ _ _ h=>h) ?_
     rotate_left
     ·intro w' hS'
      obtain⟨e0,e1,g0,g1,g2,g3,g0',g1',g2',g3',_⟩:=fS w' hS'
      go_simp<;>rfl
     go_simp
     refine wpT_take (v:=?_) rfl hS rfl ?_ (fun _ _ _ h=>h) ?_
     rotate_left
     ·intro w' hS'
      obtain⟨e0,e1,g0,g1,g2,g3,g0',g1',g2',g3',_⟩:=fS w' hS'
      go_simp<;>rfl
     go_simp
     refine wpT_take (v:=?_) rfl hS rfl ?_ (fun _ _ _ h=>h) ?_
     rotate_left
     ·intro w' hS'
      obtain⟨e0,e1,g0,g1,g2,g3,g0',g1',g2',g3',_⟩:=fS w' hS'
      go_simp<;>rfl
     go_simp
     refine wpT_take (v:=?_) rfl hS rfl ?_ (fun _ _ _ h=>h) ?_
     rotate_left
     ·intro w' hS'
      obtain⟨e0,e1,g0,g1,g2,g3,g0',g1',g2',g3',_⟩:=fS w' hS'
      go_simp<;>rfl
     go_simp
     refine wpT_take (v:=?_) rfl hS rfl ?_ (fun _ _ _ h=>h) ?_
     rotate_left
     ·intro w' hS'
      obtain⟨e0,e1,g0,g1,g2,g3,g0',g1',g2',g3',_⟩:=fS w' hS'
      go_simp<;>rfl
     go_simp
     refine wpT_take (v:=?_) rfl hS rfl ?_ (fun _ _ _ h=>h) ?_
     rotate_left
     ·intro w' hS'
      obtain⟨e0,e1,g0,g1,g2,g3,g0',g1',g2',g3',_⟩:=fS w' hS'
      go_simp<;>rfl
     go_simp
     refine wpT_take (v:=?_) rfl hS rfl ?_ (fun _ _ _ h=>h) ?_
     rotate_left
     ·intro w' hS'
      obtain⟨e0,e1,g0,g1,g2,g3,g0',g1',g2',g3',_⟩:=fS w' hS'
      go_simp<;>rfl
     go_simp
     refine wpT_take (v:=?_) rfl hS rfl ?_ (fun _ _ _ h=>h) ?_
     rotate_left
     ·intro w' hS'
      obtain⟨e0,e1,g0,g1,g2,g3,g0',g1',g2',g3',_⟩:=fS w' hS'
      go_simp<;>rfl
     go_simp
     refine wpT_take (v:=?_) rfl hS rfl ?_ (fun _ _ _ h=>h) ?_
     rotate_left
     ·intro w' hS'
      obtain⟨e0,e1,g0,g1,g2,g3,g0',g1',g2',g3',_⟩:=fS w' hS'
      go_simp<;>rfl
     go_simp
     refine wpT_take (v:=?_) rfl hS rfl ?_ (fun _ _ _ h=>h) ?_
     rotate_left
     ·intro w' hS'
      obtain⟨e0,e1,g0,g1,g2,g3,g0',g1',g2',g3',_⟩:=fS w' hS'
      go_simp<;>rfl
     go_simp
     refine wpT_both ?_ ?_
     ·refine oneT_run rfl rfl (fun M hM=>?_)
      go_wp2_with fail
      refine⟨hS.alloc hbL _,?_⟩
      go_simp
      refine wpT_only (oneT_run rfl rfl (fun M hM=>?_))
      go_wp2_with fail
      have hS2:Below wr.heap.size wr ((wd.alloc (.cells #[.slice none 0 0,.slice none 0 0,.slice none 0 0,.slice none 0 0] 45)).alloc (.cells #[.slice none 0 0,.slice none 0 0,.slice none 0 0,.slice none 0 0] 45)):=(hS.alloc hbL _).alloc (by simp;omega) _
      refine⟨hS2,?_⟩
      go_simp
      have kx:Blk ((wd.alloc (.cells #[.slice none 0 0,.slice none 0 0,.slice none 0 0,.slice none 0 0] 45)).alloc (.cells #[.slice none 0 0,.slice none 0 0,.slice none 0 0,.slice none 0 0] 45)) wd.heap.size 45 [.slice none 0 0,.slice none 0 0,.slice none 0 0,.slice none 0 0]:=(Blk.newAt rfl _ #[.slice none 0 0,.slice none 0 0,.slice none 0 0,.slice none 0 0]).alloc _
      have ky:Blk ((wd.alloc (.cells #[.slice none 0 0,.slice none 0 0,.slice none 0 0,.slice none 0 0] 45)).alloc (.cells #[.slice none 0 0,.slice none 0 0,.slice none 0 0,.slice none 0 0] 45)) (wd.heap.size+1) 45 [.slice none 0 0,.slice none 0 0,.slice none 0 0,.slice none 0 0]:=Blk.newAt (by simp) _ #[.slice none 0 0,.slice none 0 0,.slice none 0 0,.slice none 0 0]
      generalize (wd.alloc (.cells #[.slice none 0 0,.slice none 0 0,.slice none 0 0,.slice none 0 0] 45)).alloc (.cells #[.slice none 0 0,.slice none 0 0,.slice none 0 0,.slice none 0 0] 45)=w5 at *
      refine wpT_only (oneT_run rfl rfl (fun M hM=>?_))
      refine wp_store_blk kx 45 (.tmp 9) (.tmp 88) rfl rfl (us:=[.slice B1 m1 y1,.slice B2 m2 y2,.slice B3 m3 y3,.slice B4 m4 y4]) rfl I33.out rfl rfl ?_
      intro w6 kx6 hg6
      replace ky:=ky.grown hg6 (by intro e;injection e with e;omega)
      have hS6:=hS2.grown hg6 hS2.size (by intro q hq;injection hq with hq;omega)
      refine hM _ _ ⟨hS6,?_⟩
      go_simp
      refine wpT_only (oneT_run rfl rfl (fun M hM=>?_))
      refine wp_store_blk ky 45 (.tmp 10) (.tmp 93) rfl rfl (us:=[.slice B1' m1' y1',.slice B2' m2' y2',.slice B3' m3' y3',.slice B4' m4' y4']) rfl I33.out rfl rfl ?_
      intro w7 ky7 hg7
      have kx7:=kx6.grown hg7 (by intro e;injection e with e;omega)
      have hS7:=hS6.grown hg7 hS6.size (by intro q hq;injection hq with hq;omega)
      refine hM _ _ ⟨hS7,?_⟩
      go_simp
      refine wpT_fin ?_
      first|refine hk0 _ _ (Met.intro (hj0 _ _ ?_))|refine Met.intro (hj0 _ _ ?_)|refine hj0 _ _ ?_
      (repeat apply Exists.intro)
      exact⟨⟨_,_,rfl,rfl,kx7,ky7,hS7⟩,rfl⟩
     refine oneT_run rfl rfl (fun M hM=>?_)
     go_wp2_with fail
     refine⟨hS.alloc hbL _,?_⟩
     go_simp
     refine wpT_only (oneT_run rfl rfl (fun M hM=>?_))
     go_wp2_with fail
     have hS2:Below wr.heap.size wr ((wd.alloc (.cells #[.slice none 0 0,.slice none 0 0,.slice none 0 0,.slice none 0 0] 45)).alloc (.cells #[.slice none 0 0,.slice none 0 0,.slice none 0 0,.slice none 0 0] 45)):=(hS.alloc hbL _).alloc (by simp;omega) _
     refine⟨hS2,?_⟩
     go_simp
     have kx:Blk ((wd.alloc (.cells #[.slice none 0 0,.slice none 0 0,.slice none 0 0,.slice none 0 0] 45)).alloc (.cells #[.slice none 0 0,.slice none 0 0,.slice none 0 0,.slice none 0 0] 45)) wd.heap.size 45 [.slice none 0 0,.slice none 0 0,.slice none 0 0,.slice none 0 0]:=(Blk.newAt rfl _ #[.slice none 0 0,.slice none 0 0,.slice none 0 0,.slice none 0 0]).alloc _
     have ky:Blk ((wd.alloc (.cells #[.slice none 0 0,.slice none 0 0,.slice none 0 0,.slice none 0 0] 45)).alloc (.cells #[.slice none 0 0,.slice none 0 0,.slice none 0 0,.slice none 0 0] 45)) (wd.heap.size+1) 45 [.slice none 0 0,.slice none 0 0,.slice none 0 0,.slice none 0 0]:=Blk.newAt (by simp) _ #[.slice none 0 0,.slice none 0 0,.slice none 0 0,.slice none 0 0]
     generalize (wd.alloc (.cells #[.slice none 0 0,.slice none 0 0,.slice none 0 0,.slice none 0 0] 45)).alloc (.cells #[.slice none 0 0,.slice none 0 0,.slice none 0 0,.slice none 0 0] 45)=w5 at *
     have kt:=kx
     clear kx
     have kx:=ky
     clear ky
     have ky:=kt
     clear kt
     refine wpT_only (oneT_run rfl rfl (fun M hM=>?_))
     refine wp_store_blk kx 45 (.tmp 9) (.tmp 88) rfl rfl (us:=[.slice B1 m1 y1,.slice B2 m2 y2,.slice B3 m3 y3,.slice B4 m4 y4]) rfl I33.out rfl rfl ?_
     intro w6 kx6 hg6
     replace ky:=ky.grown hg6 (by intro e;injection e with e;omega)
     have hS6:=hS2.grown hg6 hS2.size (by intro q hq;injection hq with hq;omega)
     refine hM _ _ ⟨hS6,?_⟩
     go_simp
     refine wpT_only (oneT_run rfl rfl (fun M hM=>?_))
     refine wp_store_blk ky 45 (.tmp 10) (.tmp 93) rfl rfl (us:=[.slice B1' m1' y1',.slice B2' m2' y2',.slice B3' m3' y3',.slice B4' m4' y4']) rfl I33.out rfl rfl ?_
     intro w7 ky7 hg7
     have kx7:=kx6.grown hg7 (by intro e;injection e with e;omega)
     have hS7:=hS6.grown hg7 hS6.size (by intro q hq;injection hq with hq;omega)
     refine hM _ _ ⟨hS7,?_⟩
     go_simp
     refine wpT_fin ?_
     first|refine hk0 _ _ (Met.intro (hj0 _ _ ?_))|refine Met.intro (hj0 _ _ ?_)|refine hj0 _ _ ?_
     (repeat apply Exists.intro)
     exact⟨⟨_,_,rfl,rfl,kx7,ky7,hS7⟩,rfl⟩
    obtain⟨ga,gb,rfl,rfl,kx,ky,f2⟩:=hcut
    have X0:=kx.cell 0
    have Y0:=ky.cell 0
    have X1:=kx.cell 1
    have Y1:=ky.cell 1
    have X2:=kx.cell 2
    have Y2:=ky.cell 2
    have X3:=kx.cell 3
    have Y3:=ky.cell 3
    have T2:∀u,Below wc.heap.size wc u→Calls Tryz.prog 99 #[.slice B2 m2 y2,.slice B2' m2' y2'] u fun e w'=>e=.returned (.bool (decide (x.methods=y.methods)))∧∃q,w'=u.drewN q:=fun u hu=>tsame_any B2 B2' m2 y2 m2' y2' x.methods y.methods u (((q2.below (f2.mono f1.size)).below (hu.mono (by have:=f1.size;have:=f2.size;omega))).more (by have:=f1.size;have:=f2.size;have:=hu.size;omega)) (((q2'.below (f2.mono f1.size)).below (hu.mono (by have:=f1.size;have:=f2.size;omega))).more (by have:=f1.size;have:=f2.size;have:=hu.size;omega)) (by rw[←q2.1];exact okx.2.1.1) (by rw[←q2'.1];exact oky.2.1.1)
    have T3:∀u,Below wc.heap.size wc u→Calls Tryz.prog 99 #[.slice B3 m3 y3,.slice B3' m3' y3'] u fun e w'=>e=.returned (.bool (decide (x.paths=y.paths)))∧∃q,w'=u.drewN q:=fun u hu=>tsame_any B3 B3' m3 y3 m3' y3' x.paths y.paths u (((q3.below (f2.mono f1.size)).below (hu.mono (by have:=f1.size;have:=f2.size;omega))).more (by have:=f1.size;have:=f2.size;have:=hu.size;omega)) (((q3'.below (f2.mono f1.size)).below (hu.mono (by have:=f1.size;have:=f2.size;omega))).more (by have:=f1.size;have:=f2.size;have:=hu.size;omega)) (by rw[←q3.1];exact okx.2.2.1.1) (by rw[←q3'.1];exact oky.2.2.1.1)
    have T4:∀u,Below wc.heap.size wc u→Calls Tryz.prog 99 #[.slice B4 m4 y4,.slice B4' m4' y4'] u fun e w'=>e=.returned (.bool (decide (x.hosts=y.hosts)))∧∃q,w'=u.drewN q:=fun u hu=>tsame_any B4 B4' m4 y4 m4' y4' x.hosts y.hosts u (((q4.below (f2.mono f1.size)).below (hu.mono (by have:=f1.size;have:=f2.size;omega))).more (by have:=f1.size;have:=f2.size;have:=hu.size;omega)) (((q4'.below (f2.mono f1.size)).below (hu.mono (by have:=f1.size;have:=f2.size;omega))).more (by have:=f1.size;have:=f2.size;have:=hu.size;omega)) (by rw[←q4.1];exact okx.2.2.2.1) (by rw[←q4'.1];exact oky.2.2.2.1)
    have lx:=q1.1;have ly:=q1'.1
    have QX:=q1.below (f2.mono f1.size);have QY:=q1'.below (f2.mono f1.size)
    clear q1 q2 q3 q4 q1' q2' q3' q4' kx ky
    by_cases hd2:x.methods=y.methods
    rotate_left
    ·rw[decide_eq_false hd2] at T2
     obtain rfl:v=false:=HNO.out fun e=>take_not hkR hkS (by rw[HX.out,HY.out];intro h;exact hd2 (by rw[h])) (by rw[e])
     go_wp2_with fail
     refine (T2 _ (Below.refl _ _)).mono ?_
     rintro e w5 ⟨rfl,qq2,rfl⟩
     go_wp2_with fail
     go_ret
     exact⟨rfl,f1.trans ((f2.trans ((below_drewN (Below.refl _ _) _).mono f2.size)).mono f1.size)⟩
    by_cases hd3:x.paths=y.paths
    rotate_left
    ·rw[decide_eq_true hd2] at T2
     rw[decide_eq_false hd3] at T3
     obtain rfl:v=false:=HNO.out fun e=>take_not hkR hkS (by rw[HX.out,HY.out];intro h;exact hd3 (by rw[h])) (by rw[e])
     go_wp2_with fail
     refine (T2 _ (Below.refl _ _)).mono ?_
     rintro e w5 ⟨rfl,qq2,rfl⟩
     go_wp2_with fail
     refine (T3 _ (below_drewN (Below.refl _ _) _)).mono ?_
     rintro e w5 ⟨rfl,qq3,rfl⟩
     go_wp2_with fail
     go_ret
     exact⟨rfl,f1.trans ((f2.trans ((below_drewN (Below.refl _ _) _).mono f2.size)).mono f1.size)⟩
    by_cases hd4:x.hosts=y.hosts
    rotate_left
    ·rw[decide_eq_true hd2] at T2
     rw[decide_eq_true hd3] at T3
     rw[decide_eq_false hd4] at T4
     obtain rfl:v=false:=HNO.out fun e=>take_not hkR hkS (by rw[HX.out,HY.out];intro h;exact hd4 (by rw[h])) (by rw[e])
     go_wp2_with fail
     refine (T2 _ (Below.refl _ _)).mono ?_
     rintro e w5 ⟨rfl,qq2,rfl⟩
     go_wp2_with fail
     refine (T3 _ (below_drewN (Below.refl _ _) _)).mono ?_
     rintro e w5 ⟨rfl,qq3,rfl⟩
     go_wp2_with fail
     refine (T4 _ (below_drewN (Below.refl _ _) _)).mono ?_
     rintro e w5 ⟨rfl,qq4,rfl⟩
     go_wp2_with fail
     go_ret
     exact⟨rfl,f1.trans ((f2.trans ((below_drewN (Below.refl _ _) _).mono f2.size)).mono f1.size)⟩
    rw[decide_eq_true hd2] at T2
    rw[decide_eq_true hd3] at T3
    rw[decide_eq_true hd4] at T4
    by_cases hml:m1=m1'
    rotate_left
    ·have dl:((m1:Int) !=(m1':Int))=true:=by simp;omega
     have hpp:x.ports≠y.ports:=fun e=>hml (by rw[←lx,←ly,e])
     obtain rfl:v=false:=HNO.out fun e=>take_not hkR hkS (by rw[HX.out,HY.out];intro h;exact hpp (by rw[h])) (by rw[e])
     clear hpp hml
     go_wp2_with fail
     refine (T2 _ (Below.refl _ _)).mono ?_
     rintro e w5 ⟨rfl,qq2,rfl⟩
     go_wp2_with fail
     refine (T3 _ (below_drewN (Below.refl _ _) _)).mono ?_
     rintro e w5 ⟨rfl,qq3,rfl⟩
     go_wp2_with fail
     refine (T4 _ (below_drewN (Below.refl _ _) _)).mono ?_
     rintro e w5 ⟨rfl,qq4,rfl⟩
     go_wp2_with fail
     go_ret
     exact⟨rfl,f1.trans ((f2.trans ((below_drewN (Below.refl _ _) _).mono f2.size)).mono f1.size)⟩
    subst hml
    have LX:=Lib.hid lx;have LY:=Lib.hid ly;clear lx ly
    have hM1:m1≤1000000:=by rw[←LX.out];exact okx.1.1
    have dl:((m1:Int) !=(m1:Int))=false:=by simp
    go_wp2_with fail
    refine (T2 _ (Below.refl _ _)).mono ?_
    rintro e w5 ⟨rfl,qq2,rfl⟩
    go_wp2_with fail
    refine (T3 _ (below_drewN (Below.refl _ _) _)).mono ?_
    rintro e w5 ⟨rfl,qq3,rfl⟩
    go_wp2_with fail
    refine (T4 _ (below_drewN (Below.refl _ _) _)).mono ?_
    rintro e w5 ⟨rfl,qq4,rfl⟩
    go_wp2_with fail
    clear X1 X2 X3 Y1 Y2 Y3 T2 T3 T4
    go_loopw [11] (fun vi wi=>∃(j q:Nat),vi=.int .i64 j∧j≤m1∧wi=wc.drewN q∧x.ports.take j=y.ports.take j) (fun vi _=>m1-(intOf vi).toNat)
    case atStart=>exact⟨0,_,rfl,Nat.zero_le _,rfl,rfl⟩
    case round =>
     obtain⟨j,q,rfl,hj,rfl,hpe⟩:=hrel
     have HPE:=Lib.hid hpe;clear hpe
     by_cases hjm:j<m1
     ·have d3:decide ((j:Int)<(m1:Int))=true:=by simp;omega
      have b3:(0:Int)≤(j:Int):=by omega
      have b4:(j:Int)<(m1:Int):=by omega
      have hjx:j<x.ports.length:=by rw[LX.out];exact hjm
      have hjy:j<y.ports.length:=by rw[LY.out];exact hjm
      obtain⟨pb,po,rfl,hpb,pc⟩:=QX.inE hjx
      obtain⟨pb',po',rfl,hpb',pc'⟩:=QY.inE hjy
      obtain⟨px,hpx⟩:∃z,x.ports[j]=z:=⟨_,rfl⟩
      obtain⟨py,hpy⟩:∃z,y.ports[j]=z:=⟨_,rfl⟩
      rw[hpx] at pc
      rw[hpy] at pc'
      have HPX:=Lib.hid hpx;have HPY:=Lib.hid hpy;clear hpx hpy
      by_cases hpp:px=py
      ·have d4:(px !=py)=false:=by simp[hpp]
       have HPP:=Lib.hid hpp;clear hpp
       go_wp2_with fail
       go_quiet (fail)
       go_wp2_with fail
       go_roundw
       case rel=>exact⟨j+1,q+nq,by go_num,by omega,by simp[World.drewN,Nat.add_assoc],take_next hjx hjy HPE.out (by rw[HPX.out,HPY.out];exact HPP.out)⟩
       case measure=>simp[intOf];omega
      have d4:(px !=py)=true:=by simp[hpp]
      obtain rfl:v=false:=HNO.out fun e=>take_not hkR hkS (by rw[HX.out,HY.out];intro h;exact hpp (by rw[←HPX.out,←HPY.out];simp only[h])) (by rw[e])
      clear hpp
      go_wp2_with fail
      go_quiet (fail)
      go_wp2_with fail
      go_ret
      exact⟨rfl,f1.trans ((f2.trans ((below_drewN (below_drewN (Below.refl _ _) _) _).mono f2.size)).mono f1.size)⟩
     have d3:decide ((j:Int)<(m1:Int))=false:=by simp;omega
     obtain rfl:m1=j:=by omega
     have HXY:x=y:=by
      have hp:x.ports=y.ports:=take_end (by rw[LX.out,LY.out]) (by rw[LX.out];exact HPE.out)
      obtain⟨a,b,c,d⟩:=x
      obtain⟨a2,b2,c2,d2⟩:=y
      simp only at hp hd2 hd3 hd4
      rw[hp,hd2,hd3,hd4]
     go_wp2_with fail
     have FW:=f2.trans (Below.mono (below_drewN (Below.refl wc.heap.size wc) q) f2.size)
     go_roundw
     case rel=>exact⟨k+1,by go_num,by omega,⟨HB.out.1.below FW (by have:=HB.out.1.lt;omega),HB.out.2.1.below FW (by have:=HB.out.2.1.lt;omega),f1.trans (FW.mono f1.size)⟩,take_next hkR hkS HEQ.out (by rw[HX.out,HY.out];exact HXY)⟩
     case measure=>simp[intOf];omega
   have d1:decide ((k:Int)<(n2:Int))=false:=by simp;omega
   obtain rfl:n2=k:=by omega
   obtain⟨ka,kb,f1⟩:=b2
   have e0:wr.cell? ⟨w.heap.size,1,none⟩=some (.slice A2 n2 c2):=ka.cell 1
   have HQ2:Hid (r.tos=s.tos):=Lib.hid (take_end (by rw[L2.out,J2.out]) (by rw[L2.out];exact HEQ.out))
   clear HEQ d1
   go_wp2_with fail
   clear e0
   go_loopw [12] (fun vi wr=>∃(k:Nat),vi=.int .i64 k∧k≤n3∧SrB w wr [.slice A1 n1 c1,.slice A2 n2 c2,.slice A3 n3 c3] [.slice D1 n1 i1,.slice D2 n2 i2,.slice D3 n3 i3]∧r.whens.take k=s.whens.take k) (fun vi _=>n3-(intOf vi).toNat)
   case atStart=>exact⟨0,rfl,Nat.zero_le _,⟨ka,kb,f1⟩,rfl⟩
   case round =>
    obtain⟨k,rfl,hk,b2,heq⟩:=hrel
    have HEQ:=Lib.hid heq;clear heq
    by_cases hlt:k<n3
    ·have d1:decide ((k:Int)<(n3:Int))=true:=by simp;omega
     have z1:(0:Int)≤(k:Int):=by omega
     have z2:(k:Int)<(n3:Int):=by omega
     have hkR:k<r.whens.length:=by rw[L3.out];exact hlt
     have hkS:k<s.whens.length:=by rw[J3.out];exact hlt
     have HB:=Lib.hid b2
     obtain⟨ka,kb,f1⟩:=b2
     obtain⟨b,off,cs,rfl,p2,p3,p4,p5⟩:=(H3.out.mono (Nat.le_refl _) f1 (fun _ _ h=>WnP.mono h (Nat.le_refl _) f1)).at_ hlt
     obtain⟨b',off',cs',rfl,p2',p3',p4',p5'⟩:=(G3.out.mono (Nat.le_refl _) f1 (fun _ _ h=>WnP.mono h (Nat.le_refl _) f1)).at_ hlt
     obtain⟨x,hx⟩:∃x,r.whens[k]=x:=⟨_,rfl⟩
     obtain⟨y,hy⟩:∃y,s.whens[k]=y:=⟨_,rfl⟩
     have okx:=OK.out.2.2.2 _ (List.getElem_mem hkR)
     have oky:=OK2.out.2.2.2 _ (List.getElem_mem hkS)
     rw[hx] at p4 okx
     rw[hy] at p4' oky
     have HX:=Lib.hid hx;have HY:=Lib.hid hy
     have e0:wr.cell? ⟨w.heap.size,2,none⟩=some (.slice (some ⟨b,off,none⟩) n3 c3):=ka.cell 2
     have e1:wr.cell? ⟨w.heap.size+1,2,none⟩=some (.slice (some ⟨b',off',none⟩) n3 i3):=kb.cell 2
     clear hx hy
     obtain⟨B1,m1,y1,rfl,q1⟩:=vals_wn p4
     obtain⟨B1',m1',y1',rfl,q1'⟩:=vals_wn p4'
     obtain⟨sx,hsx⟩:∃z,strB x.head=z:=⟨_,rfl⟩
     obtain⟨sy,hsy⟩:∃z,strB y.head=z:=⟨_,rfl⟩
     have g0:wr.cell? ⟨b,off+k*2,none⟩=some (.string sx):=by rw[←hsx];exact p5 0 _ rfl
     have g1:wr.cell? ⟨b,off+k*2+1,none⟩=some (.slice B1 m1 y1):=p5 1 _ rfl
     have g0':wr.cell? ⟨b',off'+k*2,none⟩=some (.string sy):=by rw[←hsy];exact p5' 0 _ rfl
     have g1':wr.cell? ⟨b',off'+k*2+1,none⟩=some (.slice B1' m1' y1'):=p5' 1 _ rfl
     have hbq:=strB_beq x.head y.head
     rw[hsx,hsy] at hbq
     have T1:∀u,Below wr.heap.size wr u→Calls Tryz.prog 99 #[.slice B1 m1 y1,.slice B1' m1' y1'] u fun e w'=>e=.returned (.bool (decide (x.terms=y.terms)))∧∃q,w'=u.drewN q:=fun u hu=>tsame_any B1 B1' m1 y1 m1' y1' x.terms y.terms u ((q1.below (hu.mono f1.size)).more (by have:=f1.size;have:=hu.size;omega)) ((q1'.below (hu.mono f1.size)).more (by have:=f1.size;have:=hu.size;omega)) (by rw[←q1.1];exact okx.2.1) (by rw[←q1'.1];exact oky.2.1)
     clear p5 p5' p4 p4' p3 p3' hsx hsy q1 q1'
     by_cases hpp:x.head=y.head
     rotate_left
     ·rw[decide_eq_false hpp] at hbq
      have hnq:(sx.toList !=sy.toList)=true:=by unfold bne;rw[hbq];rfl
      obtain rfl:v=false:=HNO.out fun e=>take_not hkR hkS (by rw[HX.out,HY.out];intro h;exact hpp (by rw[h])) (by rw[e])
      clear hpp T1
      go_upto_region 23 with fail
      refine wp_region_order (fun u=>CsS [(⟨w.heap.size,2,none⟩,.slice (some ⟨b,off,none⟩) n3 c3),(⟨w.heap.size+1,2,none⟩,.slice (some ⟨b',off',none⟩) n3 i3),(⟨b,off+k*2,none⟩,.string sx),(⟨b,off+k*2+1,none⟩,.slice B1 m1 y1),(⟨b',off'+k*2,none⟩,.string sy),(⟨b',off'+k*2+1,none⟩,.slice B1' m1' y1')] u∧Below wr.heap.size wr u) 99 [(0,0),(1,0),(2,0),(3,0),(4,0),(5,0),(6,0),(7,0),(8,0),(9,0),(10,0),(11,0),(12,0),(13,0),(14,0),(15,0),(16,0),(17,0),(18,0),(19,0),(20,0),(21,0),(22,0),(23,0),(24,0),(25,0),(26,1),(27,0),(28,0)] (by kernel_rfl) (by kernel_rfl) ?_
      simp only[pick,List.filterMap_cons,List.filterMap_nil,List.getElem?_cons_zero,List.getElem?_cons_succ,Option.map_some]
      have hS:CsS [(⟨w.heap.size,2,none⟩,.slice (some ⟨b,off,none⟩) n3 c3),(⟨w.heap.size+1,2,none⟩,.slice (some ⟨b',off',none⟩) n3 i3),(⟨b,off+k*2,none⟩,.string sx),(⟨b,off+k*2+1,none⟩,.slice B1 m1 y1),(⟨b',off'+k*2,none⟩,.string sy),(⟨b',off'+k*2+1,none⟩,.slice B1' m1' y1')] wr.drew∧Below wr.heap.size wr wr.drew:=⟨⟨e0,e1,g0,g1,g0',g1',trivial⟩,(Below.refl _ _).drew⟩
      clear e0 e1 g0 g1 g0' g1'
      generalize wr.drew=wd at *
      iterate 14 (refine wpF_take (v:=?_) hS rfl ?_ (fun _ _ _ h=>h) ?_;rotate_left;(· intro w' hS';obtain⟨⟨e0,e1,g0,g1,g0',g1',_⟩,hF⟩:=hS';go_simp<;>rfl);go_simp)
      refine wpF_skip hS rfl (fun _ _ _ h=>h) ?_
      go_simp
      refine wpF_skip hS rfl (fun _ _ _ h=>h) ?_
      go_simp
      refine wpF_skip hS rfl (fun _ _ _ h=>h) ?_
      go_simp
      refine wpF_skip hS rfl (fun _ _ _ h=>h) ?_
      go_simp
      refine wpF_skip hS rfl (fun _ _ _ h=>h) ?_
      go_simp
      refine wpF_skip hS rfl (fun _ _ _ h=>h) ?_
      go_simp
      refine wpF_skip hS rfl (fun _ _ _ h=>h) ?_
      go_simp
      refine wpF_skip hS rfl (fun _ _ _ h=>h) ?_
      go_simp
      refine wpF_skip hS rfl (fun _ _ _ h=>h) ?_
      go_simp
      refine wpF_skip hS rfl (fun _ _ _ h=>h) ?_
      go_simp
      refine wpF_skip hS rfl (fun _ _ _ h=>h) ?_
      go_simp
      refine wpF_skip hS rfl (fun _ _ _ h=>h) ?_
      go_simp
      refine wpF_pass rfl (fun _=>hS) ?_
      go_simp
      refine wpF_skip hS rfl (fun _ _ _ h=>h) ?_
      go_simp
      (refine wpF_take (v:=?_) hS rfl ?_ (fun _ _ _ h=>h) ?_;rotate_left;(· intro w' hS';obtain⟨⟨e0,e1,g0,g1,g0',g1',_⟩,hF⟩:=hS';go_simp<;>rfl);go_simp)
      refine wpF_nil ?_
      go_wp2_with fail
      go_ret
      exact⟨rfl,f1.trans (hS.2.mono f1.size)⟩
     rw[decide_eq_true hpp] at hbq
     have hnq:(sx.toList !=sy.toList)=false:=by unfold bne;rw[hbq];rfl
     have HH:=Lib.hid hpp;clear hpp
     by_cases hpp:x.terms=y.terms
     rotate_left
     ·rw[decide_eq_false hpp] at T1
      obtain rfl:v=false:=HNO.out fun e=>take_not hkR hkS (by rw[HX.out,HY.out];intro h;exact hpp (by rw[h])) (by rw[e])
      clear hpp
      go_upto_region 23 with fail
      refine wp_region_order (fun u=>CsS [(⟨w.heap.size,2,none⟩,.slice (some ⟨b,off,none⟩) n3 c3),(⟨w.heap.size+1,2,none⟩,.slice (some ⟨b',off',none⟩) n3 i3),(⟨b,off+k*2,none⟩,.string sx),(⟨b,off+k*2+1,none⟩,.slice B1 m1 y1),(⟨b',off'+k*2,none⟩,.string sy),(⟨b',off'+k*2+1,none⟩,.slice B1' m1' y1')] u∧Below wr.heap.size wr u) 99 [(0,0),(1,0),(2,0),(3,0),(4,0),(5,0),(6,0),(7,0),(8,0),(9,0),(10,0),(11,0),(12,0),(13,0),(14,0),(15,0),(16,0),(17,0),(18,0),(19,0),(20,0),(21,0),(22,0),(23,0),(24,0),(25,0),(26,1),(27,0),(28,0)] (by kernel_rfl) (by kernel_rfl) ?_
      simp only[pick,List.filterMap_cons,List.filterMap_nil,List.getElem?_cons_zero,List.getElem?_cons_succ,Option.map_some]
      have hS:CsS [(⟨w.heap.size,2,none⟩,.slice (some ⟨b,off,none⟩) n3 c3),(⟨w.heap.size+1,2,none⟩,.slice (some ⟨b',off',none⟩) n3 i3),(⟨b,off+k*2,none⟩,.string sx),(⟨b,off+k*2+1,none⟩,.slice B1 m1 y1),(⟨b',off'+k*2,none⟩,.string sy),(⟨b',off'+k*2+1,none⟩,.slice B1' m1' y1')] wr.drew∧Below wr.heap.size wr wr.drew:=⟨⟨e0,e1,g0,g1,g0',g1',trivial⟩,(Below.refl _ _).drew⟩
      clear e0 e1 g0 g1 g0' g1'
      generalize wr.drew=wd at *
      iterate 26 (refine wpF_take (v:=?_) hS rfl ?_ (fun _ _ _ h=>h) ?_;rotate_left;(· intro w' hS';obtain⟨⟨e0,e1,g0,g1,g0',g1',_⟩,hF⟩:=hS';go_simp<;>rfl);go_simp)
      refine wpF_only rfl (fun K hK=>?_)
      go_wp2_with fail
      refine (T1 _ hS.2).mono ?_
      rintro e w5 ⟨rfl,qq1,rfl⟩
      replace hS:CsS [(⟨w.heap.size,2,none⟩,.slice (some ⟨b,off,none⟩) n3 c3),(⟨w.heap.size+1,2,none⟩,.slice (some ⟨b',off',none⟩) n3 i3),(⟨b,off+k*2,none⟩,.string sx),(⟨b,off+k*2+1,none⟩,.slice B1 m1 y1),(⟨b',off'+k*2,none⟩,.string sy),(⟨b',off'+k*2+1,none⟩,.slice B1' m1' y1')] _∧Below wr.heap.size wr _:=⟨hS.1.below (below_drewN (Below.refl _ _) qq1),below_drewN hS.2 qq1⟩
      go_wp2_with fail
      first|refine⟨fun _=>hS,?_⟩|refine⟨hS,?_⟩|skip
      go_simp
      iterate 2 (refine wpF_take (v:=?_) hS rfl ?_ (fun _ _ _ h=>h) ?_;rotate_left;(· intro w' hS';obtain⟨⟨e0,e1,g0,g1,g0',g1',_⟩,hF⟩:=hS';go_simp<;>rfl);go_simp)
      refine wpF_nil ?_
      go_wp2_with fail
      go_ret
      exact⟨rfl,f1.trans (hS.2.mono f1.size)⟩
     rw[decide_eq_true hpp] at T1
     have HXY:x=y:=by
      have h1:=HH.out
      obtain⟨a,b⟩:=x
      obtain⟨a2,b2⟩:=y
      simp only at h1 hpp
      rw[h1,hpp]
     go_upto_region 23 with fail
     refine wp_region_order (fun u=>CsS [(⟨w.heap.size,2,none⟩,.slice (some ⟨b,off,none⟩) n3 c3),(⟨w.heap.size+1,2,none⟩,.slice (some ⟨b',off',none⟩) n3 i3),(⟨b,off+k*2,none⟩,.string sx),(⟨b,off+k*2+1,none⟩,.slice B1 m1 y1),(⟨b',off'+k*2,none⟩,.string sy),(⟨b',off'+k*2+1,none⟩,.slice B1' m1' y1')] u∧Below wr.heap.size wr u) 99 [(0,0),(1,0),(2,0),(3,0),(4,0),(5,0),(6,0),(7,0),(8,0),(9,0),(10,0),(11,0),(12,0),(13,0),(14,0),(15,0),(16,0),(17,0),(18,0),(19,0),(20,0),(21,0),(22,0),(23,0),(24,0),(25,0),(26,1),(27,0),(28,0)] (by kernel_rfl) (by kernel_rfl) ?_
     simp only[pick,List.filterMap_cons,List.filterMap_nil,List.getElem?_cons_zero,List.getElem?_cons_succ,Option.map_some]
     have hS:CsS [(⟨w.heap.size,2,none⟩,.slice (some ⟨b,off,none⟩) n3 c3),(⟨w.heap.size+1,2,none⟩,.slice (some ⟨b',off',none⟩) n3 i3),(⟨b,off+k*2,none⟩,.string sx),(⟨b,off+k*2+1,none⟩,.slice B1 m1 y1),(⟨b',off'+k*2,none⟩,.string sy),(⟨b',off'+k*2+1,none⟩,.slice B1' m1' y1')] wr.drew∧Below wr.heap.size wr wr.drew:=⟨⟨e0,e1,g0,g1,g0',g1',trivial⟩,(Below.refl _ _).drew⟩
     clear e0 e1 g0 g1 g0' g1'
     generalize wr.drew=wd at *
     iterate 26 (refine wpF_take (v:=?_) hS rfl ?_ (fun _ _ _ h=>h) ?_;rotate_left;(· intro w' hS';obtain⟨⟨e0,e1,g0,g1,g0',g1',_⟩,hF⟩:=hS';go_simp<;>rfl);go_simp)
     refine wpF_only rfl (fun K hK=>?_)
     go_wp2_with fail
     refine (T1 _ hS.2).mono ?_
     rintro e w5 ⟨rfl,qq1,rfl⟩
     replace hS:CsS [(⟨w.heap.size,2,none⟩,.slice (some ⟨b,off,none⟩) n3 c3),(⟨w.heap.size+1,2,none⟩,.slice (some ⟨b',off',none⟩) n3 i3),(⟨b,off+k*2,none⟩,.string sx),(⟨b,off+k*2+1,none⟩,.slice B1 m1 y1),(⟨b',off'+k*2,none⟩,.string sy),(⟨b',off'+k*2+1,none⟩,.slice B1' m1' y1')] _∧Below wr.heap.size wr _:=⟨hS.1.below (below_drewN (Below.refl _ _) qq1),below_drewN hS.2 qq1⟩
     go_wp2_with fail
     first|refine⟨fun _=>hS,?_⟩|refine⟨hS,?_⟩|skip
     go_simp
     iterate 2 (refine wpF_take (v:=?_) hS rfl ?_ (fun _ _ _ h=>h) ?_;rotate_left;(· intro w' hS';obtain⟨⟨e0,e1,g0,g1,g0',g1',_⟩,hF⟩:=hS';go_simp<;>rfl);go_simp)
     refine wpF_nil ?_
     go_wp2_with fail
     have FW:=hS.2
     go_roundw
     case rel=>exact⟨k+1,by go_num,by omega,⟨HB.out.1.below FW (by have:=HB.out.1.lt;omega),HB.out.2.1.below FW (by have:=HB.out.2.1.lt;omega),f1.trans (FW.mono f1.size)⟩,take_next hkR hkS HEQ.out (by rw[HX.out,HY.out];exact HXY)⟩
     case measure=>simp[intOf];omega
    have d1:decide ((k:Int)<(n3:Int))=false:=by simp;omega
    obtain rfl:n3=k:=by omega
    obtain⟨ka,kb,f1⟩:=b2
    have e0:wr.cell? ⟨w.heap.size,2,none⟩=some (.slice A3 n3 c3):=ka.cell 2
    have HQ3:Hid (r.whens=s.whens):=Lib.hid (take_end (by rw[L3.out,J3.out]) (by rw[L3.out];exact HEQ.out))
    clear HEQ d1
    go_wp2_with fail
    obtain rfl:v=true:=by rw[←HV.out];exact decide_eq_true (EQS.out.2 ⟨HQ1.out,HQ2.out,HQ3.out⟩)
    go_ret
    exact⟨rfl,f1⟩
end Go.Proofs.YtpcdmbajfmnoiaaGreatDoor
