/- law15's long and same: rows of policies. Condition: sizes. Printed by gen_synsame.py. -/
import Derived.Test.YtpcdmbajfmnoiaaGreatDoorPolSameP
import Derived.Test.YtpcdmbajfmnoiaaGreatDoorSynPrAll
namespace Go.Proofs.YtpcdmbajfmnoiaaGreatDoor
set_option linter.unusedVariables false
set_option linter.unusedSimpArgs false
open Go.RowKit Go.Sort
def C5(b o:Nat)(v0 v1 v2 v3 v4:Value)(u:World):Prop:=u.cell? ⟨b,o,none⟩=some v0∧u.cell? ⟨b,o+1,none⟩=some v1∧u.cell? ⟨b,o+2,none⟩=some v2∧u.cell? ⟨b,o+3,none⟩=some v3∧u.cell? ⟨b,o+4,none⟩=some v4
theorem C5.below{b o:Nat}{v0 v1 v2 v3 v4:Value}{u u':World}(h:C5 b o v0 v1 v2 v3 v4 u)(hb:Below u.heap.size u u'):C5 b o v0 v1 v2 v3 v4 u':=by
 obtain⟨h0,h1,h2,h3,h4⟩:=h
 have hl:=World.block_lt_of_cell? u _ h0
 exact⟨(hb.cell (p:=⟨b,o,none⟩) hl).trans h0,(hb.cell (p:=⟨b,o+1,none⟩) hl).trans h1,(hb.cell (p:=⟨b,o+2,none⟩) hl).trans h2,(hb.cell (p:=⟨b,o+3,none⟩) hl).trans h3,(hb.cell (p:=⟨b,o+4,none⟩) hl).trans h4⟩
set_option maxRecDepth 100000 in
set_option maxHeartbeats 4000000 in
theorem same15_any(A:Option Addr)(n c:Nat)(L:List Po)(D:Option Addr)(m d:Nat)(M:List Po)(w:World)(h:RdG 5 PoP w w.heap.size A n L)(h':RdG 5 PoP w w.heap.size D m M)(hok:∀p∈L,okPo p)(hok':∀p∈M,okPo p)(hn:n≤1000000) :
  Calls Tryz.prog 15 #[.slice A n c,.slice D m d] w fun e w'=>e=.returned (.bool (decide (L=M)))∧Below w.heap.size w w':=by
 have hl:=h.1
 have hl':=h'.1
 obtain⟨v,hv⟩:∃v,decide (L=M)=v:=⟨_,rfl⟩
 rw[hv]
 by_cases hnm:n=m
 ·subst hnm
  have d1:((n:Int) !=(n:Int))=false:=by simp
  have hv1:L.take n=M.take n→v=true:=fun h=>by
   rw[←hv]
   rw[←hl,List.take_length,hl,←hl',List.take_length] at h
   rw[h];simp
  have hv2:L≠M→v=false:=fun h=>by rw[←hv];exact decide_eq_false h
  have HV1:=Lib.hid hv1;have HV2:=Lib.hid hv2;have HOK:=Lib.hid hok;have HOK':=Lib.hid hok';have H:=Lib.hid h;have H':=Lib.hid h'
  clear hv hv1 hv2 hok hok' h h'
  go_enter Tryz.func15,Tryz.ntmps15
  go_wp2_with fail
  go_loopw [5] (fun v5 wr=>∃k:Nat,v5=.int .i64 k∧k≤n∧Below w.heap.size w wr∧L.take k=M.take k) (fun v5 _=>n-(intOf v5).toNat)
  case atStart=>exact⟨0,rfl,by omega,Below.refl _ _,by simp⟩
  case round =>
   obtain⟨k,rfl,hk,f1,hall⟩:=hrel
   by_cases hlt2:k<n
   ·have d5:decide ((k:Int)<(n:Int))=true:=by simp;omega
    have b1:(0:Int)≤(k:Int):=by omega
    have b2:(k:Int)<(n:Int):=by omega
    have hkl:k<L.length:=by omega
    have hkm:k<M.length:=by omega
    have hokp:=HOK.out _ (List.getElem_mem hkl)
    have hokq:=HOK'.out _ (List.getElem_mem hkm)
    have htk:=(List.take_append_getElem hkl).symm
    have htm:=(List.take_append_getElem hkm).symm
    have hne:L[k]≠M[k]→L≠M:=fun h e=>h (by subst e;rfl)
    obtain⟨b,off,cs,p1,p2,p3,p4,p5⟩:=(H.out.mono f1.size f1 fun _ _ h=>PoP.mono h f1.size f1).at_ hlt2
    obtain⟨b',off',ds,q1,q2,q3,q4,q5⟩:=(H'.out.mono f1.size f1 fun _ _ h=>PoP.mono h f1.size f1).at_ hlt2
    obtain⟨p,hp⟩:∃p,L[k]=p:=⟨_,rfl⟩
    obtain⟨q,hq⟩:∃q,M[k]=q:=⟨_,rfl⟩
    rw[hp] at hokp p4 htk hne
    rw[hq] at hokq q4 htm hne
    clear hp hq
    have hcl:=fun(u:World)(hu:Below wr.heap.size wr u)=>same12_any p q cs ds u (PoP.mono p4 hu.size hu) (PoP.mono q4 hu.size hu) hokp hokq
    obtain⟨v5,rfl,A5,n5,c5,rfl,_,_,hr⟩:=p4
    obtain⟨v6,rfl,A6,n6,c6,rfl,_,_,hr'⟩:=q4
    have g0:wr.cell? ⟨b,off+k*5,none⟩=some (.int .u64 (p.id:Int)):=p5 0 _ rfl
    have g1:wr.cell? ⟨b,off+k*5+1,none⟩=some (.string (strB p.ns)):=p5 1 _ rfl
    have g2:wr.cell? ⟨b,off+k*5+2,none⟩=some (.int .u64 (p.service:Int)):=p5 2 _ rfl
    have g3:wr.cell? ⟨b,off+k*5+3,none⟩=some (.int .i64 p.deny):=p5 3 _ rfl
    have g4:wr.cell? ⟨b,off+k*5+4,none⟩=some (.slice A5 n5 c5):=p5 4 _ rfl
    have h0:wr.cell? ⟨b',off'+k*5,none⟩=some (.int .u64 (q.id:Int)):=q5 0 _ rfl
    have h1:wr.cell? ⟨b',off'+k*5+1,none⟩=some (.string (strB q.ns)):=q5 1 _ rfl
    have h2:wr.cell? ⟨b',off'+k*5+2,none⟩=some (.int .u64 (q.service:Int)):=q5 2 _ rfl
    have h3:wr.cell? ⟨b',off'+k*5+3,none⟩=some (.int .i64 q.deny):=q5 3 _ rfl
    have h4:wr.cell? ⟨b',off'+k*5+4,none⟩=some (.slice A6 n6 c6):=q5 4 _ rfl
    clear p3 p5 hr q3 q5 hr'
    subst p1
    subst q1
    have HCL:=Lib.hid hcl;clear hcl
    generalize strB p.ns=sp at *
    generalize strB q.ns=sq at *
    go_upto_region 6 with fail
    refine wp_region_order (fun u=>C5 b (off+k*5) (.int .u64 (p.id:Int)) (.string sp) (.int .u64 (p.service:Int)) (.int .i64 p.deny) (.slice A5 n5 c5) u∧C5 b' (off'+k*5) (.int .u64 (q.id:Int)) (.string sq) (.int .u64 (q.service:Int)) (.int .i64 q.deny) (.slice A6 n6 c6) u) 99 [(0,0),(1,0),(2,0),(3,0),(4,0),(5,0),(6,0),(7,0),(8,1),(9,0)] (by kernel_rfl) (by kernel_rfl) ?_
    simp only[pick,List.filterMap_cons,List.filterMap_nil,List.getElem?_cons_zero,List.getElem?_cons_succ,Option.map_some]
    have hS:C5 b (off+k*5) (.int .u64 (p.id:Int)) (.string sp) (.int .u64 (p.service:Int)) (.int .i64 p.deny) (.slice A5 n5 c5) wr.drew∧C5 b' (off'+k*5) (.int .u64 (q.id:Int)) (.string sq) (.int .u64 (q.service:Int)) (.int .i64 q.deny) (.slice A6 n6 c6) wr.drew:=⟨⟨g0,g1,g2,g3,g4⟩,h0,h1,h2,h3,h4⟩
    have F2:Below wr.heap.size wr wr.drew:=(Below.refl _ _).drew
    clear g0 g1 g2 g3 g4 h0 h1 h2 h3 h4
    generalize wr.drew=wd at *
    iterate 8 (refine wpF_take (v:=?_) hS rfl ?_ (fun _ _ _ h=>h) ?_;rotate_left;(· intro w' hS';obtain⟨⟨e0,e1,e2,e3,e4⟩,e5,e6,e7,e8,e9⟩:=hS';go_simp<;>rfl);go_simp)
    refine wpF_only rfl (fun K hK=>?_)
    go_wp2_with fail
    refine (HCL.out _ F2).mono ?_
    rintro e w3 ⟨rfl,f3⟩
    replace hS:_∧_:=⟨hS.1.below f3,hS.2.below f3⟩
    replace F2:=F2.trans (f3.mono F2.size)
    clear f3
    go_wp2_with fail
    first|refine⟨fun _=>hS,?_⟩|refine⟨hS,?_⟩|skip
    go_simp
    (refine wpF_take (v:=?_) hS rfl ?_ (fun _ _ _ h=>h) ?_;rotate_left;(· intro w' hS';obtain⟨⟨e0,e1,e2,e3,e4⟩,e5,e6,e7,e8,e9⟩:=hS';go_simp<;>rfl);go_simp)
    refine wpF_nil ?_
    rcases hm:decide (p=q) with _|_
    ·go_wp2_with fail
     go_ret
     exact⟨by rw[HV2.out (hne (of_decide_eq_false hm))];rfl,f1.trans (F2.mono f1.size)⟩
    go_wp2_with fail
    go_roundw
    case rel =>
     refine⟨k+1,by go_num,by omega,f1.trans (F2.mono f1.size),?_⟩
     rw[htk,htm,hall,of_decide_eq_true hm]
    case measure=>simp[intOf];omega
   have d5:decide ((k:Int)<(n:Int))=false:=by simp;omega
   have hkn:k=n:=by omega
   rw[hkn] at hall
   go_wp2_with fail
   go_ret
   exact⟨by rw[HV1.out hall];rfl,f1⟩
 have d1:((n:Int) !=(m:Int))=true:=by rw[bne_iff_ne];omega
 obtain rfl:v=false:=by
  rw[←hv]
  exact decide_eq_false fun e=>hnm (by rw[←hl,←hl',e])
 go_enter Tryz.func15,Tryz.ntmps15
 go_wp2_with fail
 go_ret
 exact⟨rfl,Below.refl _ _⟩
end Go.Proofs.YtpcdmbajfmnoiaaGreatDoor
