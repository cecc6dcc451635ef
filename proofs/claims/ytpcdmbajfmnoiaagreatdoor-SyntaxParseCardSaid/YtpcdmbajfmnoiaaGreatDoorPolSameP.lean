/- law12's Long; gatepostref12.Same: whether two policies are the same. Condition: sizes. Printed by gen_psamep.py. -/
import Derived.Test.YtpcdmbajfmnoiaaGreatDoorPolSameR
import Derived.Test.YtpcdmbajfmnoiaaGreatDoorPolLongR
import Derived.Test.YtpcdmbajfmnoiaaGreatDoorOpenA
import Derived.Test.YtpcdmbajfmnoiaaGreatDoorFacts
namespace Go.Proofs.YtpcdmbajfmnoiaaGreatDoor
set_option linter.unusedVariables false
set_option linter.unusedSimpArgs false
open Go.RowKit Go.Sort
def poLong(p:Po):Bool:=(decide (20<p.rules.length)||decide (300<p.ns.length))||p.rules.any ruLong
theorem oqPo.ok{p:Po}(h:oqPo p)(hl:poLong p=false):okPo p:=by
 unfold poLong at hl
 simp only[Bool.or_eq_false_iff,decide_eq_false_iff_not] at hl
 obtain⟨⟨l1,l2⟩,l3⟩:=hl
 exact⟨h.1,by show p.ns.length≤1000000;omega,h.2.2.1,h.2.2.2.1,by omega,fun r hr=>(h.2.2.2.2.2 r hr).ok (any_no l3 r hr)⟩
set_option maxRecDepth 100000 in
set_option maxHeartbeats 4000000 in
theorem same12_any(p q:Po)(cs ds:List Value)(w:World)(h:PoP w w.heap.size cs p)(h':PoP w w.heap.size ds q)(hok:okPo p)(hok':okPo q) :
  Calls Tryz.prog 32 #[.agg cs.toArray,.agg ds.toArray] w fun e w'=>e=.returned (.bool (decide (p=q)))∧Below w.heap.size w w':=by
 obtain⟨v,rfl,A,n,c,rfl,_,_,h1⟩:=h
 obtain⟨v,rfl,D,m,d,rfl,_,_,h2⟩:=h'
 have l1:=h1.1
 have l2:=h2.1
 obtain⟨v,hv⟩:∃v,decide (p=q)=v:=⟨_,rfl⟩
 rw[hv]
 have hno:p≠q→v=false:=fun h=>by rw[←hv];exact decide_eq_false h
 have hye:p=q→v=true:=fun h=>by rw[←hv];exact decide_eq_true h
 have eqs:p=q↔(p.id=q.id∧p.ns=q.ns∧p.service=q.service∧p.deny=q.deny∧p.rules=q.rules):=by obtain⟨_,_,_,_,_⟩:=p;obtain⟨_,_,_,_,_⟩:=q;simp
 have HNO:=Lib.hid hno;have HYE:=Lib.hid hye;have EQS:=Lib.hid eqs
 have H1:=Lib.hid h1;have H2:=Lib.hid h2;have L1:=Lib.hid l1;have L2:=Lib.hid l2
 have OK1:=Lib.hid hok.2.2.2.2;have OK2:=Lib.hid hok'.2.2.2.2
 have hbq:=strB_beq p.ns q.ns
 clear h1 h2 l1 l2 hv hno hye eqs hok hok'
 show Calls Tryz.prog 32 #[.agg #[.int .u64 (p.id:Int),.string (strB p.ns),.int .u64 (p.service:Int),.int .i64 p.deny,.slice A n c],.agg #[.int .u64 (q.id:Int),.string (strB q.ns),.int .u64 (q.service:Int),.int .i64 q.deny,.slice D m d]] w _
 generalize strB p.ns=sn at *
 generalize strB q.ns=sm at *
 obtain⟨wb,hwb⟩:∃wb,(w.alloc (.cells #[.int .u64 (p.id:Int),.string sn,.int .u64 (p.service:Int),.int .i64 p.deny,.slice A n c] 39)).alloc (.cells #[.int .u64 (q.id:Int),.string sm,.int .u64 (q.service:Int),.int .i64 q.deny,.slice D m d] 39)=wb:=⟨_,rfl⟩
 have fa:Below w.heap.size w wb:=by rw[←hwb];exact ((Below.refl _ _).alloc (Nat.le_refl _) _).alloc (by simp) _
 have ka0:Blk wb w.heap.size 39 [.int .u64 (p.id:Int),.string sn,.int .u64 (p.service:Int),.int .i64 p.deny,.slice A n c]:=by rw[←hwb];exact (Blk.newAt rfl _ #[.int .u64 (p.id:Int),.string sn,.int .u64 (p.service:Int),.int .i64 p.deny,.slice A n c]).alloc _
 have kb0:Blk wb (w.heap.size+1) 39 [.int .u64 (q.id:Int),.string sm,.int .u64 (q.service:Int),.int .i64 q.deny,.slice D m d]:=by rw[←hwb];exact Blk.newAt (by simp) _ #[.int .u64 (q.id:Int),.string sm,.int .u64 (q.service:Int),.int .i64 q.deny,.slice D m d]
 have x0:=ka0.cell 0;have x1:=ka0.cell 1;have x2:=ka0.cell 2;have x3:=ka0.cell 3;have x4:=ka0.cell 4
 have y0:=kb0.cell 0;have y1:=kb0.cell 1;have y2:=kb0.cell 2;have y3:=kb0.cell 3;have y4:=kb0.cell 4
 by_cases q1:p.id=q.id
 rotate_left
 ·have d1:((p.id:Int) !=(q.id:Int))=true:=by simp;omega
  obtain rfl:v=false:=HNO.out fun e=>q1 (by rw[e])
  clear q1
  go_enter Tryz.func32,Tryz.ntmps32
  go_wp2_with fail
  go_ret
  exact⟨rfl,fa⟩
 have d1:((p.id:Int) !=(q.id:Int))=false:=by simp;omega
 have Hq1:=Lib.hid q1;clear q1
 by_cases q2:p.ns=q.ns
 rotate_left
 ·rw[decide_eq_false q2] at hbq
  have d2:(sn.toList !=sm.toList)=true:=by unfold bne;rw[hbq];rfl
  obtain rfl:v=false:=HNO.out fun e=>q2 (by rw[e])
  clear q2
  go_enter Tryz.func32,Tryz.ntmps32
  go_wp2_with fail
  go_ret
  exact⟨rfl,fa⟩
 rw[decide_eq_true q2] at hbq
 have d2:(sn.toList !=sm.toList)=false:=by unfold bne;rw[hbq];rfl
 have Hq2:=Lib.hid q2;clear q2
 by_cases q3:p.service=q.service
 rotate_left
 ·have d3:((p.service:Int) !=(q.service:Int))=true:=by simp;omega
  obtain rfl:v=false:=HNO.out fun e=>q3 (by rw[e])
  clear q3
  go_enter Tryz.func32,Tryz.ntmps32
  go_wp2_with fail
  go_ret
  exact⟨rfl,fa⟩
 have d3:((p.service:Int) !=(q.service:Int))=false:=by simp;omega
 have Hq3:=Lib.hid q3;clear q3
 by_cases q4:p.deny=q.deny
 rotate_left
 ·have d4:(p.deny !=q.deny)=true:=by simp[q4]
  obtain rfl:v=false:=HNO.out fun e=>q4 (by rw[e])
  clear q4
  go_enter Tryz.func32,Tryz.ntmps32
  go_wp2_with fail
  go_ret
  exact⟨rfl,fa⟩
 have d4:(p.deny !=q.deny)=false:=by simp[q4]
 have Hq4:=Lib.hid q4;clear q4
 by_cases q5:n=m
 rotate_left
 ·have d5:((n:Int) !=(m:Int))=true:=by simp;omega
  obtain rfl:v=false:=HNO.out fun e=>q5 (by rw[←L1.out,←L2.out,e])
  clear q5
  go_enter Tryz.func32,Tryz.ntmps32
  go_wp2_with fail
  go_ret
  exact⟨rfl,fa⟩
 subst q5
 have q5:n=n:=rfl
 have d5:((n:Int) !=(n:Int))=false:=by simp
 have Hq5:=Lib.hid q5;clear q5
 have hN:n≤1000000:=by rw[←L1.out];exact OK1.out.1
 go_enter Tryz.func32,Tryz.ntmps32
 go_wp2_with fail
 clear x0 x1 x2 x3 x4 y0 y1 y2 y3 y4 d1 d2 d3 d4 d5 hbq hwb
 go_loopw [5] (fun v5 wr=>∃k:Nat,v5=.int .i64 k∧k≤n∧Below w.heap.size w wr∧Blk wr w.heap.size 39 [.int .u64 (p.id:Int),.string sn,.int .u64 (p.service:Int),.int .i64 p.deny,.slice A n c]∧Blk wr (w.heap.size+1) 39 [.int .u64 (q.id:Int),.string sm,.int .u64 (q.service:Int),.int .i64 q.deny,.slice D n d]∧p.rules.take k=q.rules.take k) (fun v5 _=>n-(intOf v5).toNat)
 case atStart=>exact⟨0,rfl,Nat.zero_le _,fa,ka0,kb0,rfl⟩
 case round =>
  clear ka0 kb0 fa
  obtain⟨k,rfl,hk,f1,ka,kb,heq⟩:=hrel
  have HEQ:=Lib.hid heq;clear heq
  have e4:=ka.cell 4
  by_cases hlt:k<n
  ·have d1:decide ((k:Int)<(n:Int))=true:=by simp;omega
   have b1:(0:Int)≤(k:Int):=by omega
   have b2:(k:Int)<(n:Int):=by omega
   have hkR:k<p.rules.length:=by rw[L1.out];exact hlt
   have hkS:k<q.rules.length:=by rw[L2.out];exact hlt
   obtain⟨b,off,cs,rfl,p2,p3,p4,p5⟩:=(H1.out.mono f1.size f1 (fun _ _ h=>RuP.mono h f1.size f1)).at_ hlt
   obtain⟨b',off',cs',rfl,p2',p3',p4',p5'⟩:=(H2.out.mono f1.size f1 (fun _ _ h=>RuP.mono h f1.size f1)).at_ hlt
   have hC:=fun(u:World)(hu:Below wr.heap.size wr u)=>sameRule_any p.rules[k] q.rules[k] cs cs' u (RuP.mono p4 hu.size hu) (RuP.mono p4' hu.size hu) (OK1.out.2 _ (List.getElem_mem hkR)) (OK2.out.2 _ (List.getElem_mem hkS))
   obtain⟨A1,n1,c1,A2,n2,c2,A3,n3,c3,rfl,_⟩:=vals_ru p4
   obtain⟨D1,m1,d1z,D2,m2,d2,D3,m3,d3,rfl,_⟩:=vals_ru p4'
   have EE0:CsS [(⟨w.heap.size,4,none⟩,.slice (some ⟨b,off,none⟩) n c),(⟨w.heap.size+1,4,none⟩,.slice (some ⟨b',off',none⟩) n d),(⟨b,off+k*3,none⟩,.slice A1 n1 c1),(⟨b,off+k*3+1,none⟩,.slice A2 n2 c2),(⟨b,off+k*3+2,none⟩,.slice A3 n3 c3),(⟨b',off'+k*3,none⟩,.slice D1 m1 d1z),(⟨b',off'+k*3+1,none⟩,.slice D2 m2 d2),(⟨b',off'+k*3+2,none⟩,.slice D3 m3 d3)] wr:=⟨ka.cell 4,kb.cell 4,p5 0 _ rfl,p5 1 _ rfl,p5 2 _ rfl,p5' 0 _ rfl,p5' 1 _ rfl,p5' 2 _ rfl,trivial⟩
   have EE:=fun(u:World)(hu:Below wr.heap.size wr u)=>CsS.below EE0 hu
   clear EE0 p5 p5' p4 p4' p3 p3'
   by_cases hx:p.rules[k]=q.rules[k]
   ·rw[decide_eq_true hx] at hC
    have HX:=Lib.hid hx;have HC:=Lib.hid hC;clear hx hC
    go_upto_region 6 with fail
    refine wp_region_facts (fun u=>Below wr.heap.size wr u) [
      fun v _=>v=.pointer (some ⟨w.heap.size,4,none⟩),
      fun v _=>v=.slice (some ⟨b,off,none⟩) n c,
      fun v _=>v=.int .i64 (k:Int),
      fun v _=>v=.pointer (some ⟨b,off+k*3,none⟩),
      fun v _=>v=.agg #[.slice A1 n1 c1,.slice A2 n2 c2,.slice A3 n3 c3],
      fun v _=>v=.pointer (some ⟨w.heap.size+1,4,none⟩),
      fun v _=>v=(.slice (some ⟨b',off',none⟩) n d),
      fun v _=>v=.int .i64 (k:Int),
      fun v _=>v=.pointer (some ⟨b',off'+k*3,none⟩),
      fun v _=>v=.agg #[.slice D1 m1 d1z,.slice D2 m2 d2,.slice D3 m3 d3],
      fun v _=>v=.bool true,
      fun v _=>v=.bool false] (fun u u'=>Below u.heap.size u u')
      [[],[0],[],[1,2],[3],[],[5],[],[6,7],[8],[4,9],[10]] []
      (by kernel_rfl) (by kernel_rfl) ?_ (fun _ _ _ _ _ h=>h) ((Below.refl _ _).drew) ?_ ?_
    ·refine hE_of (fun u u' h f=>f.trans (h.mono f.size)) ?_
     repeat' (first|exact mono_nil|refine mono_cons (fun v u u' h=>?_) ?_)
     all_goals first|exact _root_.id
    ·
     refine owed_cons (fun vs u hS hD N=>?_) ?_
     ·clear hD
      intro hN
      simp only[fact,layAt,depOn,dstOf,List.map_cons,List.map_nil,List.foldl_cons,List.foldl_nil,List.getD_cons_zero,List.getD_cons_succ,List.getElem?_cons_zero,List.getElem?_cons_succ,Option.bind_some] at hN ⊢
      go_simp
      have hh:=hN _ _ rfl (.inl (Below.refl _ _))
      revert hh
      go_simp
     refine owed_cons (fun vs u hS hD N=>?_) ?_
     ·have d0:=hD 0 (by decide)
      simp only[fact,layAt,depOn,dstOf,List.map_cons,List.map_nil,List.foldl_cons,List.foldl_nil,List.getD_cons_zero,List.getD_cons_succ,List.getElem?_cons_zero,List.getElem?_cons_succ,Option.bind_some] at d0
      clear hD
      intro hN
      simp only[fact,layAt,depOn,dstOf,List.map_cons,List.map_nil,List.foldl_cons,List.foldl_nil,List.getD_cons_zero,List.getD_cons_succ,List.getElem?_cons_zero,List.getElem?_cons_succ,Option.bind_some,d0] at hN ⊢
      go_simp
      obtain⟨e0,e1,g0,g1,g2,k0,k1,k2,_⟩:=EE _ hS
      go_simp
      have hh:=hN _ _ rfl (.inl (Below.refl _ _))
      revert hh
      go_simp
     refine owed_cons (fun vs u hS hD N=>?_) ?_
     ·clear hD
      intro hN
      simp only[fact,layAt,depOn,dstOf,List.map_cons,List.map_nil,List.foldl_cons,List.foldl_nil,List.getD_cons_zero,List.getD_cons_succ,List.getElem?_cons_zero,List.getElem?_cons_succ,Option.bind_some] at hN ⊢
      go_simp
      have hh:=hN _ _ rfl (.inl (Below.refl _ _))
      revert hh
      go_simp
     refine owed_cons (fun vs u hS hD N=>?_) ?_
     ·have d1:=hD 1 (by decide)
      simp only[fact,layAt,depOn,dstOf,List.map_cons,List.map_nil,List.foldl_cons,List.foldl_nil,List.getD_cons_zero,List.getD_cons_succ,List.getElem?_cons_zero,List.getElem?_cons_succ,Option.bind_some] at d1
      have d2:=hD 2 (by decide)
      simp only[fact,layAt,depOn,dstOf,List.map_cons,List.map_nil,List.foldl_cons,List.foldl_nil,List.getD_cons_zero,List.getD_cons_succ,List.getElem?_cons_zero,List.getElem?_cons_succ,Option.bind_some] at d2
      clear hD
      intro hN
      simp only[fact,layAt,depOn,dstOf,List.map_cons,List.map_nil,List.foldl_cons,List.foldl_nil,List.getD_cons_zero,List.getD_cons_succ,List.getElem?_cons_zero,List.getElem?_cons_succ,Option.bind_some,d1,d2] at hN ⊢
      go_simp
      have hh:=hN _ _ rfl (.inl (Below.refl _ _))
      revert hh
      go_simp
     refine owed_cons (fun vs u hS hD N=>?_) ?_
     ·have d3:=hD 3 (by decide)
      simp only[fact,layAt,depOn,dstOf,List.map_cons,List.map_nil,List.foldl_cons,List.foldl_nil,List.getD_cons_zero,List.getD_cons_succ,List.getElem?_cons_zero,List.getElem?_cons_succ,Option.bind_some] at d3
      clear hD
      intro hN
      simp only[fact,layAt,depOn,dstOf,List.map_cons,List.map_nil,List.foldl_cons,List.foldl_nil,List.getD_cons_zero,List.getD_cons_succ,List.getElem?_cons_zero,List.getElem?_cons_succ,Option.bind_some,d3] at hN ⊢
      go_simp
      obtain⟨e0,e1,g0,g1,g2,k0,k1,k2,_⟩:=EE _ hS
      go_simp
      have hh:=hN _ _ rfl (.inl (Below.refl _ _))
      revert hh
      go_simp
     refine owed_cons (fun vs u hS hD N=>?_) ?_
     ·clear hD
      intro hN
      simp only[fact,layAt,depOn,dstOf,List.map_cons,List.map_nil,List.foldl_cons,List.foldl_nil,List.getD_cons_zero,List.getD_cons_succ,List.getElem?_cons_zero,List.getElem?_cons_succ,Option.bind_some] at hN ⊢
      go_simp
      have hh:=hN _ _ rfl (.inl (Below.refl _ _))
      revert hh
      go_simp
     refine owed_cons (fun vs u hS hD N=>?_) ?_
     ·have d5:=hD 5 (by decide)
      simp only[fact,layAt,depOn,dstOf,List.map_cons,List.map_nil,List.foldl_cons,List.foldl_nil,List.getD_cons_zero,List.getD_cons_succ,List.getElem?_cons_zero,List.getElem?_cons_succ,Option.bind_some] at d5
      clear hD
      intro hN
      simp only[fact,layAt,depOn,dstOf,List.map_cons,List.map_nil,List.foldl_cons,List.foldl_nil,List.getD_cons_zero,List.getD_cons_succ,List.getElem?_cons_zero,List.getElem?_cons_succ,Option.bind_some,d5] at hN ⊢
      go_simp
      obtain⟨e0,e1,g0,g1,g2,k0,k1,k2,_⟩:=EE _ hS
      go_simp
      have hh:=hN _ _ rfl (.inl (Below.refl _ _))
      revert hh
      go_simp
     refine owed_cons (fun vs u hS hD N=>?_) ?_
     ·clear hD
      intro hN
      simp only[fact,layAt,depOn,dstOf,List.map_cons,List.map_nil,List.foldl_cons,List.foldl_nil,List.getD_cons_zero,List.getD_cons_succ,List.getElem?_cons_zero,List.getElem?_cons_succ,Option.bind_some] at hN ⊢
      go_simp
      have hh:=hN _ _ rfl (.inl (Below.refl _ _))
      revert hh
      go_simp
     refine owed_cons (fun vs u hS hD N=>?_) ?_
     ·have d6:=hD 6 (by decide)
      simp only[fact,layAt,depOn,dstOf,List.map_cons,List.map_nil,List.foldl_cons,List.foldl_nil,List.getD_cons_zero,List.getD_cons_succ,List.getElem?_cons_zero,List.getElem?_cons_succ,Option.bind_some] at d6
      have d7:=hD 7 (by decide)
      simp only[fact,layAt,depOn,dstOf,List.map_cons,List.map_nil,List.foldl_cons,List.foldl_nil,List.getD_cons_zero,List.getD_cons_succ,List.getElem?_cons_zero,List.getElem?_cons_succ,Option.bind_some] at d7
      clear hD
      intro hN
      simp only[fact,layAt,depOn,dstOf,List.map_cons,List.map_nil,List.foldl_cons,List.foldl_nil,List.getD_cons_zero,List.getD_cons_succ,List.getElem?_cons_zero,List.getElem?_cons_succ,Option.bind_some,d6,d7] at hN ⊢
      go_simp
      have hh:=hN _ _ rfl (.inl (Below.refl _ _))
      revert hh
      go_simp
     refine owed_cons (fun vs u hS hD N=>?_) ?_
     ·have d8:=hD 8 (by decide)
      simp only[fact,layAt,depOn,dstOf,List.map_cons,List.map_nil,List.foldl_cons,List.foldl_nil,List.getD_cons_zero,List.getD_cons_succ,List.getElem?_cons_zero,List.getElem?_cons_succ,Option.bind_some] at d8
      clear hD
      intro hN
      simp only[fact,layAt,depOn,dstOf,List.map_cons,List.map_nil,List.foldl_cons,List.foldl_nil,List.getD_cons_zero,List.getD_cons_succ,List.getElem?_cons_zero,List.getElem?_cons_succ,Option.bind_some,d8] at hN ⊢
      go_simp
      obtain⟨e0,e1,g0,g1,g2,k0,k1,k2,_⟩:=EE _ hS
      go_simp
      have hh:=hN _ _ rfl (.inl (Below.refl _ _))
      revert hh
      go_simp
     refine owed_cons (fun vs u hS hD N=>?_) ?_
     ·have d4:=hD 4 (by decide)
      simp only[fact,layAt,depOn,dstOf,List.map_cons,List.map_nil,List.foldl_cons,List.foldl_nil,List.getD_cons_zero,List.getD_cons_succ,List.getElem?_cons_zero,List.getElem?_cons_succ,Option.bind_some] at d4
      have d9:=hD 9 (by decide)
      simp only[fact,layAt,depOn,dstOf,List.map_cons,List.map_nil,List.foldl_cons,List.foldl_nil,List.getD_cons_zero,List.getD_cons_succ,List.getElem?_cons_zero,List.getElem?_cons_succ,Option.bind_some] at d9
      clear hD
      intro hN
      simp only[fact,layAt,depOn,dstOf,List.map_cons,List.map_nil,List.foldl_cons,List.foldl_nil,List.getD_cons_zero,List.getD_cons_succ,List.getElem?_cons_zero,List.getElem?_cons_succ,Option.bind_some,d4,d9] at hN ⊢
      go_simp
      refine (HC.out u hS).mono ?_
      rintro e u1 ⟨rfl,f⟩
      have hh:=hN _ _ rfl (.inl f)
      revert hh
      go_simp
     refine owed_cons (fun vs u hS hD N=>?_) ?_
     ·have d10:=hD 10 (by decide)
      simp only[fact,layAt,depOn,dstOf,List.map_cons,List.map_nil,List.foldl_cons,List.foldl_nil,List.getD_cons_zero,List.getD_cons_succ,List.getElem?_cons_zero,List.getElem?_cons_succ,Option.bind_some] at d10
      clear hD
      intro hN
      simp only[fact,layAt,depOn,dstOf,List.map_cons,List.map_nil,List.foldl_cons,List.foldl_nil,List.getD_cons_zero,List.getD_cons_succ,List.getElem?_cons_zero,List.getElem?_cons_succ,Option.bind_some,d10] at hN ⊢
      go_simp
      have hh:=hN _ _ rfl (.inl (Below.refl _ _))
      revert hh
      go_simp
     exact owed_nil
    
    intro vs u hS hF
    have d11:=hF 11 (by decide) (by decide)
    simp only[fact,layAt,depOn,dstOf,List.map_cons,List.map_nil,List.foldl_cons,List.foldl_nil,List.getD_cons_zero,List.getD_cons_succ,List.getElem?_cons_zero,List.getElem?_cons_succ,Option.bind_some] at d11
    clear hF
    simp only[List.length_cons,List.length_nil,Nat.reduceAdd,List.range,List.range.loop,fact,layAt,depOn,dstOf,List.map_cons,List.map_nil,List.foldl_cons,List.foldl_nil,List.getD_cons_zero,List.getD_cons_succ,List.getElem?_cons_zero,List.getElem?_cons_succ,Option.bind_some,d11]
    go_simp
    go_wp2_with fail
    go_roundw
    case rel=>exact⟨k+1,by go_num,by omega,f1.trans (hS.mono f1.size),ka.below hS ka.lt,kb.below hS kb.lt,take_next hkR hkS HEQ.out HX.out⟩
    case measure=>simp[intOf];omega
   rw[decide_eq_false hx] at hC
   obtain rfl:v=false:=HNO.out fun e=>take_not hkR hkS hx (by rw[e])
   have HC:=Lib.hid hC;clear hx hC
   go_upto_region 6 with fail
   refine wp_region_facts (fun u=>Below wr.heap.size wr u) [
     fun v _=>v=.pointer (some ⟨w.heap.size,4,none⟩),
     fun v _=>v=.slice (some ⟨b,off,none⟩) n c,
     fun v _=>v=.int .i64 (k:Int),
     fun v _=>v=.pointer (some ⟨b,off+k*3,none⟩),
     fun v _=>v=.agg #[.slice A1 n1 c1,.slice A2 n2 c2,.slice A3 n3 c3],
     fun v _=>v=.pointer (some ⟨w.heap.size+1,4,none⟩),
     fun v _=>v=(.slice (some ⟨b',off',none⟩) n d),
     fun v _=>v=.int .i64 (k:Int),
     fun v _=>v=.pointer (some ⟨b',off'+k*3,none⟩),
     fun v _=>v=.agg #[.slice D1 m1 d1z,.slice D2 m2 d2,.slice D3 m3 d3],
     fun v _=>v=.bool false,
     fun v _=>v=.bool true] (fun u u'=>Below u.heap.size u u')
     [[],[0],[],[1,2],[3],[],[5],[],[6,7],[8],[4,9],[10]] []
     (by kernel_rfl) (by kernel_rfl) ?_ (fun _ _ _ _ _ h=>h) ((Below.refl _ _).drew) ?_ ?_
   ·refine hE_of (fun u u' h f=>f.trans (h.mono f.size)) ?_
    repeat' (first|exact mono_nil|refine mono_cons (fun v u u' h=>?_) ?_)
    all_goals first|exact _root_.id
   ·
    refine owed_cons (fun vs u hS hD N=>?_) ?_
    ·clear hD
     intro hN
     simp only[fact,layAt,depOn,dstOf,List.map_cons,List.map_nil,List.foldl_cons,List.foldl_nil,List.getD_cons_zero,List.getD_cons_succ,List.getElem?_cons_zero,List.getElem?_cons_succ,Option.bind_some] at hN ⊢
     go_simp
     have hh:=hN _ _ rfl (.inl (Below.refl _ _))
     revert hh
     go_simp
    refine owed_cons (fun vs u hS hD N=>?_) ?_
    ·have d0:=hD 0 (by decide)
     simp only[fact,layAt,depOn,dstOf,List.map_cons,List.map_nil,List.foldl_cons,List.foldl_nil,List.getD_cons_zero,List.getD_cons_succ,List.getElem?_cons_zero,List.getElem?_cons_succ,Option.bind_some] at d0
     clear hD
     intro hN
     simp only[fact,layAt,depOn,dstOf,List.map_cons,List.map_nil,List.foldl_cons,List.foldl_nil,List.getD_cons_zero,List.getD_cons_succ,List.getElem?_cons_zero,List.getElem?_cons_succ,Option.bind_some,d0] at hN ⊢
     go_simp
     obtain⟨e0,e1,g0,g1,g2,k0,k1,k2,_⟩:=EE _ hS
     go_simp
     have hh:=hN _ _ rfl (.inl (Below.refl _ _))
     revert hh
     go_simp
    refine owed_cons (fun vs u hS hD N=>?_) ?_
    ·clear hD
     intro hN
     simp only[fact,layAt,depOn,dstOf,List.map_cons,List.map_nil,List.foldl_cons,List.foldl_nil,List.getD_cons_zero,List.getD_cons_succ,List.getElem?_cons_zero,List.getElem?_cons_succ,Option.bind_some] at hN ⊢
     go_simp
     have hh:=hN _ _ rfl (.inl (Below.refl _ _))
     revert hh
     go_simp
    refine owed_cons (fun vs u hS hD N=>?_) ?_
    ·have d1:=hD 1 (by decide)
     simp only[fact,layAt,depOn,dstOf,List.map_cons,List.map_nil,List.foldl_cons,List.foldl_nil,List.getD_cons_zero,List.getD_cons_succ,List.getElem?_cons_zero,List.getElem?_cons_succ,Option.bind_some] at d1
     have d2:=hD 2 (by decide)
     simp only[fact,layAt,depOn,dstOf,List.map_cons,List.map_nil,List.foldl_cons,List.foldl_nil,List.getD_cons_zero,List.getD_cons_succ,List.getElem?_cons_zero,List.getElem?_cons_succ,Option.bind_some] at d2
     clear hD
     intro hN
     simp only[fact,layAt,depOn,dstOf,List.map_cons,List.map_nil,List.foldl_cons,List.foldl_nil,List.getD_cons_zero,List.getD_cons_succ,List.getElem?_cons_zero,List.getElem?_cons_succ,Option.bind_some,d1,d2] at hN ⊢
     go_simp
     have hh:=hN _ _ rfl (.inl (Below.refl _ _))
     revert hh
     go_simp
    refine owed_cons (fun vs u hS hD N=>?_) ?_
    ·have d3:=hD 3 (by decide)
     simp only[fact,layAt,depOn,dstOf,List.map_cons,List.map_nil,List.foldl_cons,List.foldl_nil,List.getD_cons_zero,List.getD_cons_succ,List.getElem?_cons_zero,List.getElem?_cons_succ,Option.bind_some] at d3
     clear hD
     intro hN
     simp only[fact,layAt,depOn,dstOf,List.map_cons,List.map_nil,List.foldl_cons,List.foldl_nil,List.getD_cons_zero,List.getD_cons_succ,List.getElem?_cons_zero,List.getElem?_cons_succ,Option.bind_some,d3] at hN ⊢
     go_simp
     obtain⟨e0,e1,g0,g1,g2,k0,k1,k2,_⟩:=EE _ hS
     go_simp
     have hh:=hN _ _ rfl (.inl (Below.refl _ _))
     revert hh
     go_simp
    refine owed_cons (fun vs u hS hD N=>?_) ?_
    ·clear hD
     intro hN
     simp only[fact,layAt,depOn,dstOf,List.map_cons,List.map_nil,List.foldl_cons,List.foldl_nil,List.getD_cons_zero,List.getD_cons_succ,List.getElem?_cons_zero,List.getElem?_cons_succ,Option.bind_some] at hN ⊢
     go_simp
     have hh:=hN _ _ rfl (.inl (Below.refl _ _))
     revert hh
     go_simp
    refine owed_cons (fun vs u hS hD N=>?_) ?_
    ·have d5:=hD 5 (by decide)
     simp only[fact,layAt,depOn,dstOf,List.map_cons,List.map_nil,List.foldl_cons,List.foldl_nil,List.getD_cons_zero,List.getD_cons_succ,List.getElem?_cons_zero,List.getElem?_cons_succ,Option.bind_some] at d5
     clear hD
     intro hN
     simp only[fact,layAt,depOn,dstOf,List.map_cons,List.map_nil,List.foldl_cons,List.foldl_nil,List.getD_cons_zero,List.getD_cons_succ,List.getElem?_cons_zero,List.getElem?_cons_succ,Option.bind_some,d5] at hN ⊢
     go_simp
     obtain⟨e0,e1,g0,g1,g2,k0,k1,k2,_⟩:=EE _ hS
     go_simp
     have hh:=hN _ _ rfl (.inl (Below.refl _ _))
     revert hh
     go_simp
    refine owed_cons (fun vs u hS hD N=>?_) ?_
    ·clear hD
     intro hN
     simp only[fact,layAt,depOn,dstOf,List.map_cons,List.map_nil,List.foldl_cons,List.foldl_nil,List.getD_cons_zero,List.getD_cons_succ,List.getElem?_cons_zero,List.getElem?_cons_succ,Option.bind_some] at hN ⊢
     go_simp
     have hh:=hN _ _ rfl (.inl (Below.refl _ _))
     revert hh
     go_simp
    refine owed_cons (fun vs u hS hD N=>?_) ?_
    ·have d6:=hD 6 (by decide)
     simp only[fact,layAt,depOn,dstOf,List.map_cons,List.map_nil,List.foldl_cons,List.foldl_nil,List.getD_cons_zero,List.getD_cons_succ,List.getElem?_cons_zero,List.getElem?_cons_succ,Option.bind_some] at d6
     have d7:=hD 7 (by decide)
     simp only[fact,layAt,depOn,dstOf,List.map_cons,List.map_nil,List.foldl_cons,List.foldl_nil,List.getD_cons_zero,List.getD_cons_succ,List.getElem?_cons_zero,List.getElem?_cons_succ,Option.bind_some] at d7
     clear hD
     intro hN
     simp only[fact,layAt,depOn,dstOf,List.map_cons,List.map_nil,List.foldl_cons,List.foldl_nil,List.getD_cons_zero,List.getD_cons_succ,List.getElem?_cons_zero,List.getElem?_cons_succ,Option.bind_some,d6,d7] at hN ⊢
     go_simp
     have hh:=hN _ _ rfl (.inl (Below.refl _ _))
     revert hh
     go_simp
    refine owed_cons (fun vs u hS hD N=>?_) ?_
    ·have d8:=hD 8 (by decide)
     simp only[fact,layAt,depOn,dstOf,List.map_cons,List.map_nil,List.foldl_cons,List.foldl_nil,List.getD_cons_zero,List.getD_cons_succ,List.getElem?_cons_zero,List.getElem?_cons_succ,Option.bind_some] at d8
     clear hD
     intro hN
     simp only[fact,layAt,depOn,dstOf,List.map_cons,List.map_nil,List.foldl_cons,List.foldl_nil,List.getD_cons_zero,List.getD_cons_succ,List.getElem?_cons_zero,List.getElem?_cons_succ,Option.bind_some,d8] at hN ⊢
     go_simp
     obtain⟨e0,e1,g0,g1,g2,k0,k1,k2,_⟩:=EE _ hS
     go_simp
     have hh:=hN _ _ rfl (.inl (Below.refl _ _))
     revert hh
     go_simp
    refine owed_cons (fun vs u hS hD N=>?_) ?_
    ·have d4:=hD 4 (by decide)
     simp only[fact,layAt,depOn,dstOf,List.map_cons,List.map_nil,List.foldl_cons,List.foldl_nil,List.getD_cons_zero,List.getD_cons_succ,List.getElem?_cons_zero,List.getElem?_cons_succ,Option.bind_some] at d4
     have d9:=hD 9 (by decide)
     simp only[fact,layAt,depOn,dstOf,List.map_cons,List.map_nil,List.foldl_cons,List.foldl_nil,List.getD_cons_zero,List.getD_cons_succ,List.getElem?_cons_zero,List.getElem?_cons_succ,Option.bind_some] at d9
     clear hD
     intro hN
     simp only[fact,layAt,depOn,dstOf,List.map_cons,List.map_nil,List.foldl_cons,List.foldl_nil,List.getD_cons_zero,List.getD_cons_succ,List.getElem?_cons_zero,List.getElem?_cons_succ,Option.bind_some,d4,d9] at hN ⊢
     go_simp
     refine (HC.out u hS).mono ?_
     rintro e u1 ⟨rfl,f⟩
     have hh:=hN _ _ rfl (.inl f)
     revert hh
     go_simp
    refine owed_cons (fun vs u hS hD N=>?_) ?_
    ·have d10:=hD 10 (by decide)
     simp only[fact,layAt,depOn,dstOf,List.map_cons,List.map_nil,List.foldl_cons,List.foldl_nil,List.getD_cons_zero,List.getD_cons_succ,List.getElem?_cons_zero,List.getElem?_cons_succ,Option.bind_some] at d10
     clear hD
     intro hN
     simp only[fact,layAt,depOn,dstOf,List.map_cons,List.map_nil,List.foldl_cons,List.foldl_nil,List.getD_cons_zero,List.getD_cons_succ,List.getElem?_cons_zero,List.getElem?_cons_succ,Option.bind_some,d10] at hN ⊢
     go_simp
     have hh:=hN _ _ rfl (.inl (Below.refl _ _))
     revert hh
     go_simp
    exact owed_nil
   
   intro vs u hS hF
   have d11:=hF 11 (by decide) (by decide)
   simp only[fact,layAt,depOn,dstOf,List.map_cons,List.map_nil,List.foldl_cons,List.foldl_nil,List.getD_cons_zero,List.getD_cons_succ,List.getElem?_cons_zero,List.getElem?_cons_succ,Option.bind_some] at d11
   clear hF
   simp only[List.length_cons,List.length_nil,Nat.reduceAdd,List.range,List.range.loop,fact,layAt,depOn,dstOf,List.map_cons,List.map_nil,List.foldl_cons,List.foldl_nil,List.getD_cons_zero,List.getD_cons_succ,List.getElem?_cons_zero,List.getElem?_cons_succ,Option.bind_some,d11]
   go_simp
   go_wp2_with fail
   go_ret
   exact⟨rfl,f1.trans (hS.mono f1.size)⟩
  have d1:decide ((k:Int)<(n:Int))=false:=by simp;omega
  obtain rfl:n=k:=by omega
  obtain rfl:=HYE.out (EQS.out.2 ⟨Hq1.out,Hq2.out,Hq3.out,Hq4.out,take_end (by rw[L1.out,L2.out]) (by rw[L1.out];exact HEQ.out)⟩)
  go_wp2_with fail
  go_ret
  exact⟨rfl,f1⟩
end Go.Proofs.YtpcdmbajfmnoiaaGreatDoor
