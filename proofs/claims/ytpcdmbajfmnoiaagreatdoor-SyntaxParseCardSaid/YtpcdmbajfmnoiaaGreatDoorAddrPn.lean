/- addr.PrintNet. Conditions: an address of 32 bits; the library's variables hold what they should. -/
import Derived.Test.YtpcdmbajfmnoiaaGreatDoorAddrTx
import Derived.Test.YtpcdmbajfmnoiaaGreatDoorOrder
namespace Go.Proofs.YtpcdmbajfmnoiaaGreatDoor
set_option linter.unusedVariables false
set_option linter.unusedSimpArgs false
open Go.RowKit Go.Sort
theorem strB_app(a b:List UInt8):strB a++strB b=strB (a++b):=by
 unfold strB
 apply ByteArray.ext
 simp
theorem printNet_eq{c:Nt}(h:nMay c=true):strB (printA c.1)++⟨#[47]⟩++strB (Lib.itoa c.2)=strB (printNetA c):=by
 unfold printNetA
 rw[if_pos h,show (⟨#[47]⟩:ByteArray)=strB [47] from rfl,strB_app,strB_app]
 simp
set_option maxRecDepth 100000 in
set_option maxHeartbeats 2000000 in
theorem printNet_any(a:Nat)(b:Int)(w:World)(hW:LdW w)(hc:okN (a,b)) :
  Calls Tryz.prog 41 #[ntV a b] w fun e w'=>e=.returned (.string (strB (printNetA (a,b))))∧Below w.heap.size w w':=by
 have hlt:=hW.lt
 have hmay:=fun w=>may_any a b w hc
 obtain⟨h0,h1,h2⟩:=hc
 simp only at h0 h1 h2
 rcases hm:nMay (a,b) with _|_
 ·have e:printNetA (a,b)=[]:=by unfold printNetA;rw[if_neg (by rw[hm];decide)]
  rw[hm] at hmay
  rw[e]
  clear e hm
  unfold ntV at *
  go_enter Tryz.func41,Tryz.ntmps41
  go_upto_region 1 with fail
  refine abs (fun w1=>BxS w.heap.size a b w1∧Grn w w1) ⟨box_cells w a b,(Grn.refl w).alloc _⟩ ?_
  rintro w1 ⟨⟨e0,e1⟩,f1⟩
  go_wp2_with fail
  refine (hmay w1).mono ?_
  rintro e w2 ⟨rfl,f2⟩
  replace f1:=f1.trans f2
  go_wp2_with fail
  go_ret
  exact⟨rfl,f1.below⟩
 have hpe:=printNet_eq hm
 simp only at hpe
 have hpr:=fun w h=>print_any a h0 w h
 have hit:=fun w h=>itoa_any b w h h1 h2
 have hb:=(nMay_iff (a,b)).1 hm
 simp only at hb
 have zp:(strB (printA a)).size≤15:=by rw[strB_size];exact join_len a
 have zq:(strB (Lib.itoa b)).size≤3:=by
  rw[strB_size]
  have:=itoa_len b.toNat (by omega)
  rwa [show ((b.toNat:Nat):Int)=b by omega] at this
 rw[hm] at hmay
 clear hm hb
 obtain⟨r,hr⟩:∃r,strB (printNetA (a,b))=r:=⟨_,rfl⟩
 rw[hr] at hpe ⊢
 clear hr
 generalize strB (printA a)=p at *
 generalize strB (Lib.itoa b)=q at *
 have HP:=Lib.hid hpe;clear hpe
 unfold ntV at *
 go_enter Tryz.func41,Tryz.ntmps41
 go_upto_region 1 with fail
 refine abs (fun w1=>BxS w.heap.size a b w1∧Grn w w1) ⟨box_cells w a b,(Grn.refl w).alloc _⟩ ?_
 rintro w1 ⟨⟨e0,e1⟩,f1⟩
 go_wp2_with fail
 refine (hmay w1).mono ?_
 rintro e w2 ⟨rfl,f2⟩
 obtain⟨e2,e3⟩:=BxS.below ⟨e0,e1⟩ f2.below
 have f3:Below w.heap.size w w2:=(f1.trans f2).below
 clear e0 e1 f1 f2
 go_upto_region 3 with fail
 refine wp_region_order (BxS w.heap.size a b) 99 [(0,0),(1,0),(4,0),(5,0),(2,1),(3,0),(6,1),(7,0),(8,0)] (by kernel_rfl) (by kernel_rfl) ?_
 simp only[pick,List.filterMap_cons,List.filterMap_nil,List.getElem?_cons_zero,List.getElem?_cons_succ,Option.map_some]
 have hS:BxS w.heap.size a b w2.drew:=⟨e2,e3⟩
 have F1:Below w.heap.size w w2.drew:=f3.drew
 clear f3 e2 e3
 have zs:¬9223372036854775807<p.size+1:=by omega
 have zt:¬9223372036854775807<p.size+1+q.size:=by omega
 generalize w2.drew=wd at *
 iterate 4 (refine wpF_take (v:=?_) hS rfl ?_ (fun _ _ _ h=>h) ?_;rotate_left;(· intro w' hS';obtain⟨e0,e1⟩:=hS';go_simp<;>rfl);go_simp)
 refine wpF_only rfl (fun K hK=>?_)
 go_wp2_with fail
 refine (hpr _ (hW.below hlt F1)).mono ?_
 rintro _ w9 ⟨rfl,f9⟩
 replace F1:=F1.trans (f9.mono F1.size)
 replace hS:=hS.below f9
 clear f9
 go_wp2_with fail
 first|refine⟨fun _=>hS,?_⟩|refine⟨hS,?_⟩|skip
 go_simp
 (refine wpF_take (v:=?_) hS rfl ?_ (fun _ _ _ h=>h) ?_;rotate_left;(· intro w' hS';obtain⟨e0,e1⟩:=hS';go_simp<;>rfl);go_simp)
 refine wpF_only rfl (fun K hK=>?_)
 go_wp2_with fail
 refine (hit _ (hW.below hlt F1)).mono ?_
 rintro _ w9 ⟨rfl,f9⟩
 replace F1:=F1.trans (f9.below.mono F1.size)
 replace hS:=hS.below f9.below
 clear f9
 go_wp2_with fail
 first|refine⟨fun _=>hS,?_⟩|refine⟨hS,?_⟩|skip
 go_simp
 iterate 2 (refine wpF_take (v:=?_) hS rfl ?_ (fun _ _ _ h=>h) ?_;rotate_left;(· intro w' hS';obtain⟨e0,e1⟩:=hS';go_simp<;>rfl);go_simp)
 refine wpF_nil ?_
 go_wp2_with fail
 go_ret
 exact⟨by rw[←HP.out];rfl,F1⟩
end Go.Proofs.YtpcdmbajfmnoiaaGreatDoor
