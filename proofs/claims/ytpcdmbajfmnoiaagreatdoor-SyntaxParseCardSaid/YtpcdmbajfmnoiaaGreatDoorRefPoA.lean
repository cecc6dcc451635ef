/- gatepostref07's May and MayAll: terms that may be. Conditions: sizes. Printed by gen_prterm.py. gatepostref12.source: a source that may be. Conditions: sizes. Printed by gen_prsrc.py. gatepostref12.target: a target that may be. Conditions: sizes. Printed by gen_prtgt.py. gatepostref09.MayName: a header's name. Conditions: sizes. Printed by gen_prname.py. gatepostref12.MayRule: a rule that may be. Conditions: sizes. Printed by gen_prrule.py. The document's labels; May, Print of both. No condition. gatepostref12.May: a policy that may be. Conditions: sizes. Printed by gen_prpo.py. -/
import Derived.Test.YtpcdmbajfmnoiaaGreatDoorPolTRS
import Derived.Test.YtpcdmbajfmnoiaaGreatDoorAddrAB
import Derived.Test.YtpcdmbajfmnoiaaGreatDoorPolSame
import Derived.Test.YtpcdmbajfmnoiaaGreatDoorPolSameR
import Derived.Test.YtpcdmbajfmnoiaaGreatDoorPolData
import Derived.Test.YtpcdmbajfmnoiaaGreatDoorFacts
import Derived.Test.YtpcdmbajfmnoiaaGreatDoorLabel
import Derived.Test.YtpcdmbajfmnoiaaGreatDoorPolPoA
namespace Go.Proofs.YtpcdmbajfmnoiaaGreatDoor
set_option linter.unusedVariables false
set_option linter.unusedSimpArgs false
open Go.RowKit Go.Sort
theorem tm_four(l:List UInt8):tmMay (4,l)=l.isEmpty:=by
 unfold tmMay
 rw[if_pos rfl]
 cases l<;>simp
theorem tm_out{K:Int}{l:List UInt8}(hK:K≠4)(h:K<1∨3<K∨l.length<1∨64<l.length):tmMay (K,l)=false:=by
 unfold tmMay
 rw[if_neg hK]
 rcases h with h|h|h|h
 ·rw[decide_eq_false (show ¬1≤K by omega)];simp
 ·rw[decide_eq_false (show ¬K≤3 by omega)];simp
 ·rw[decide_eq_false (show ¬1≤l.length by omega)];simp
 rw[decide_eq_false (show ¬l.length≤64 by omega)];simp
set_option maxRecDepth 100000 in
set_option maxHeartbeats 2000000 in
theorem rtMay_any(K:Int)(l:List UInt8)(w:World)(hl:l.length≤9223372036854775807) :
  Calls Tryz.prog 127 #[.agg #[.int .i64 K,.string (strB l)]] w fun e w'=>e=.returned (.bool (tmMay (K,l)))∧Below w.heap.size w w':=by
 obtain⟨r,hr⟩:∃r,tmMay (K,l)=r:=⟨_,rfl⟩
 rw[hr]
 have HR:=Lib.hid hr;clear hr
 have hsz:=strB_size l
 obtain⟨w1,hw1⟩:∃w1,w.alloc (.cells #[.int .i64 K,.string (strB l)] 42)=w1:=⟨_,rfl⟩
 have f0:Below w.heap.size w w1:=by rw[←hw1];exact (Below.refl _ _).alloc (Nat.le_refl _) _
 have e0:w1.cell? ⟨w.heap.size,0,none⟩=some (.int .i64 K):=by rw[←hw1];exact (Blk.newAt rfl _ #[.int .i64 K,.string (strB l)]).cell 0
 have e1:w1.cell? ⟨w.heap.size,1,none⟩=some (.string (strB l)):=by rw[←hw1];exact (Blk.newAt rfl _ #[.int .i64 K,.string (strB l)]).cell 1
 generalize hs:strB l=s at *
 have hat:∀k (h:k<s.size),(s[k]'h).toNat=(at8 l k).toNat:=by subst hs;exact strB_at l
 have Hs:=Lib.hid hs
 have Hat:=Lib.hid hat
 clear hs hat
 have hem:((l.length:Int)==0)=l.isEmpty:=by cases l<;>simp;omega
 generalize hn:l.length=n at *
 have Hn:=Lib.hid hn
 clear hn
 by_cases k4:K=4
 ·subst k4
  rw[tm_four] at HR
  obtain⟨em,he⟩:∃em,l.isEmpty=em:=⟨_,rfl⟩
  rw[he] at HR hem
  obtain rfl:em=r:=HR.out
  clear he
  go_enter Tryz.func127,Tryz.ntmps127
  go_wp2_with fail
  go_ret
  exact⟨rfl,f0⟩
 clear hem
 have K4:=Lib.hid k4
 have d0:(K==4)=false:=by simp;exact k4
 have hout:(K<1∨3<K∨n<1∨64<n)→r=false:=fun h=>by rw[←HR.out];exact tm_out K4.out (by rw[Hn.out];exact h)
 have HOUT:=Lib.hid hout;clear hout k4
 by_cases c0:K<1
 ·have x0:decide (K<1)=true:=by simp;omega
  obtain rfl:=HOUT.out (by omega)
  clear c0
  go_enter Tryz.func127,Tryz.ntmps127
  go_wp2_with fail
  go_ret
  exact⟨rfl,f0⟩
 have x0:decide (K<1)=false:=by simp;omega
 by_cases c1:3<K
 ·have x1:decide (3<K)=true:=by simp;omega
  obtain rfl:=HOUT.out (by omega)
  clear c1
  go_enter Tryz.func127,Tryz.ntmps127
  go_wp2_with fail
  go_ret
  exact⟨rfl,f0⟩
 have x1:decide (3<K)=false:=by simp;omega
 by_cases c2:n<1
 ·have x2:((n:Int)==0)=true:=by simp;omega
  obtain rfl:=HOUT.out (by omega)
  clear c2
  go_enter Tryz.func127,Tryz.ntmps127
  go_wp2_with fail
  go_ret
  exact⟨rfl,f0⟩
 have x2:((n:Int)==0)=false:=by simp;omega
 by_cases c3:64<n
 ·have x3:decide ((64:Int)<(n:Int))=true:=by simp;omega
  obtain rfl:=HOUT.out (by omega)
  clear c3
  go_enter Tryz.func127,Tryz.ntmps127
  go_wp2_with fail
  go_ret
  exact⟨rfl,f0⟩
 have x3:decide ((64:Int)<(n:Int))=false:=by simp;omega
 go_enter Tryz.func127,Tryz.ntmps127
 go_wp2_with fail
 clear hw1 x0 x1 x2 x3 d0 e0
 go_loopw [3] (fun i wr=>∃k:Nat,k≤n∧i=.int .i64 k∧wr=w1∧(∀j,j<k→okC (at8 l j).toNat=true)) (fun i _=>n-(intOf i).toNat)
 case atStart=>exact⟨0,by omega,rfl,rfl,fun j hj=>absurd hj (by omega)⟩
 case round =>
  obtain⟨k,hk,rfl,rfl,hok⟩:=hrel
  have Hok:=Lib.hid hok
  clear hok
  by_cases hlt:k<n
  ·have d5:decide ((k:Int)<(n:Int))=true:=by simp;omega
   have b1:(0:Int)≤(k:Int):=by omega
   have b2:(k:Int)<(n:Int):=by omega
   have qk:(s[k]'(by omega)).toNat=(at8 l k).toNat:=Hat.out k (by omega)
   generalize hC:(at8 l k).toNat=C at *
   have HC:=Lib.hid hC
   clear hC
   have hno:okC C=false→r=false:=fun h=>by rw[←HR.out];exact tm_no (i:=k) (by rw[Hn.out];omega) (by rw[HC.out];exact h)
   have HNO:=Lib.hid hno;clear hno
   by_cases h0:C<33
   ·have y0:decide ((C:Int)<33)=true:=by simp;omega
    obtain rfl:=HNO.out (okC_no (.inl h0))
    clear h0
    go_wp2_with fail
    go_ret
    exact⟨rfl,f0⟩
   have y0:decide ((C:Int)<33)=false:=by simp;omega
   by_cases h1:126<C
   ·have y1:decide ((126:Int)<(C:Int))=true:=by simp;omega
    obtain rfl:=HNO.out (okC_no (.inr (.inl h1)))
    clear h1
    go_wp2_with fail
    go_ret
    exact⟨rfl,f0⟩
   have y1:decide ((126:Int)<(C:Int))=false:=by simp;omega
   by_cases h2:C=42
   ·have y2:((C:Int)==42)=true:=by simp;omega
    obtain rfl:=HNO.out (okC_no (.inr (.inr (.inl h2))))
    clear h2
    go_wp2_with fail
    go_ret
    exact⟨rfl,f0⟩
   have y2:((C:Int)==42)=false:=by simp;omega
   by_cases h3:C=44
   ·have y3:((C:Int)==44)=true:=by simp;omega
    obtain rfl:=HNO.out (okC_no (.inr (.inr (.inr h3))))
    clear h3
    go_wp2_with fail
    go_ret
    exact⟨rfl,f0⟩
   have y3:((C:Int)==44)=false:=by simp;omega
   have HYE:=Lib.hid (okC_yes h0 h1 h2 h3)
   go_wp2_with fail
   go_roundw
   case rel =>
    refine⟨k+1,by omega,by go_num,by trivial,fun j hj=>?_⟩
    by_cases hjk:j=k
    ·subst hjk;rw[HC.out];exact HYE.out
    exact Hok.out j (by omega)
   case measure=>simp[intOf];omega
  have d5:decide ((k:Int)<(n:Int))=false:=by simp;omega
  obtain rfl:r=true:=by
   rw[←HR.out,tm_yes (fun i hi=>Hok.out i (by rw[Hn.out] at hi;omega)),if_neg K4.out,Hn.out]
   simp
   omega
  go_wp2_with fail
  go_ret
  exact⟨rfl,f0⟩
theorem allMay_no{L:List Tm}{k:Nat}(hk:k<L.length)(h:tmMay L[k]=false):allMay L=false:=by
 unfold allMay
 rw[show L.all tmMay=false from by rw[List.all_eq_false];exact⟨_,List.getElem_mem hk,by rw[h];simp⟩,Bool.and_false]
theorem allMay_yes{L:List Tm}(h:∀j (hj:j<L.length),tmMay L[j]=true):allMay L=decide (L.length≤6):=by
 unfold allMay
 rw[show L.all tmMay=true from by rw[List.all_eq_true];intro x hx;obtain⟨j,hj,rfl⟩:=List.getElem_of_mem hx;exact h j hj,Bool.and_true]
set_option maxRecDepth 100000 in
set_option maxHeartbeats 2000000 in
theorem rtMayAll_any(A:Option Addr)(n c:Nat)(L:List Tm)(w:World)(h:RdR tmC 2 w w.heap.size A n L)(hn:n≤9223372036854775807)(hok:∀t∈L,t.2.length≤9223372036854775807) :
  Calls Tryz.prog 80 #[.slice A n c] w fun e w'=>e=.returned (.bool (allMay L))∧Below w.heap.size w w':=by
 have hl:=h.1
 obtain⟨r,hr⟩:∃r,allMay L=r:=⟨_,rfl⟩
 rw[hr]
 have HR:=Lib.hid hr;have HL:=Lib.hid hl;have HOK:=Lib.hid hok;have H:=Lib.hid h
 clear hr hl hok h
 go_enter Tryz.func80,Tryz.ntmps80
 go_wp2_with fail
 go_loopw [3] (fun i wr=>∃k:Nat,k≤n∧i=.int .i64 k∧Below w.heap.size w wr∧(∀j (hj:j<L.length),j<k→tmMay L[j]=true)) (fun i _=>n-(intOf i).toNat)
 case atStart=>exact⟨0,by omega,rfl,Below.refl _ _,fun j hj hj2=>absurd hj2 (by omega)⟩
 case round =>
  obtain⟨k,hk,rfl,f1,hall⟩:=hrel
  have HALL:=Lib.hid hall
  clear hall
  by_cases hlt:k<n
  ·have d5:decide ((k:Int)<(n:Int))=true:=by simp;omega
   have b1:(0:Int)≤(k:Int):=by omega
   have b2:(k:Int)<(n:Int):=by omega
   have hkL:k<L.length:=by rw[HL.out];exact hlt
   obtain⟨b,off,p1,p2,p3⟩:=(H.out.below f1).2 (by omega)
   have q0:wr.cell? ⟨b,off+k*2,none⟩=some (.int .i64 L[k].1):=p3 k hkL 0 _ rfl
   have q1:wr.cell? ⟨b,off+k*2+1,none⟩=some (.string (strB L[k].2)):=p3 k hkL 1 _ rfl
   clear p3
   have hm:=rtMay_any L[k].1 L[k].2 wr (HOK.out _ (List.getElem_mem hkL))
   have ht:tmMay (L[k].1,L[k].2)=tmMay L[k]:=rfl
   rw[ht] at hm
   obtain⟨x,hx⟩:∃x,tmMay L[k]=x:=⟨_,rfl⟩
   rw[hx] at hm
   have HX:=Lib.hid hx
   clear hx ht
   generalize L[k].1=kk at *
   generalize strB L[k].2=ss at *
   subst p1
   go_wp2_with fail
   refine hm.mono ?_
   rintro e w2 ⟨rfl,f2⟩
   replace f1:=f1.trans (f2.mono f1.size)
   clear q0 q1 f2 hm
   cases x
   ·obtain rfl:r=false:=by rw[←HR.out];exact allMay_no hkL HX.out
    go_wp2_with fail
    go_ret
    exact⟨rfl,f1⟩
   go_wp2_with fail
   go_roundw
   case rel =>
    refine⟨k+1,by omega,by go_num,f1,fun j hj hj2=>?_⟩
    by_cases hjk:j=k
    ·subst hjk;exact HX.out
    exact HALL.out j hj (by omega)
   case measure=>simp[intOf];omega
  have d5:decide ((k:Int)<(n:Int))=false:=by simp;omega
  have hq:decide ((n:Int)≤6)=r:=by
   rw[←HR.out,allMay_yes (fun j hj=>HALL.out j hj (by rw[HL.out] at hj;omega)),HL.out]
   exact decide_eq_decide.2 (by omega)
  go_wp2_with fail
  go_ret
  exact⟨rfl,f1⟩
theorem all_no{α:Type}{f:α→Bool}{L:List α}{k:Nat}(hk:k<L.length)(h:f L[k]=false):L.all f=false:=by
 rw[List.all_eq_false]
 exact⟨_,List.getElem_mem hk,by rw[h];simp⟩
theorem all_yes{α:Type}{f:α→Bool}{L:List α}(h:∀j (hj:j<L.length),f L[j]=true):L.all f=true:=by
 rw[List.all_eq_true]
 intro x hx
 obtain⟨j,hj,rfl⟩:=List.getElem_of_mem hx
 exact h j hj
theorem okTs.len{L:List Tm}(h:okTs L):∀t∈L,t.2.length≤9223372036854775807:=fun t ht=>Nat.le_trans (h.2 t ht) (by omega)
set_option maxRecDepth 100000 in
set_option maxHeartbeats 2000000 in
theorem rsource_any(s:Sr)(cs:List Value)(w:World)(h:SrP w w.heap.size cs s)(hok:okSr s) :
  Calls Tryz.prog 77 #[.agg cs.toArray] w fun e w'=>e=.returned (.bool (srMay s))∧Below w.heap.size w w':=by
 obtain⟨A1,n1,c1,A2,n2,c2,A3,n3,c3,rfl,h1,h2,h3⟩:=vals_sr h
 obtain⟨k1,k2,k3⟩:=hok
 have l1:=h1.1;have l2:=h2.1;have l3:=h3.1
 have hn1:n1≤1000000:=by rw[←l1];exact k1.1
 have hn2:n2≤1000000:=by rw[←l2];exact k2.1
 have hn3:n3≤1000000:=by rw[←l3];exact k3.1
 obtain⟨r,hr⟩:∃r,srMay s=r:=⟨_,rfl⟩
 rw[hr]
 have hr2:r=(allMay s.names&&(allMay s.spaces&&(decide (n3≤6)&&s.nets.all nMay))):=by
  rw[←hr,←l3]
  unfold srMay rowsMay
  simp only[List.all_cons,List.all_nil,Bool.and_true,Bool.and_assoc]
 have HR:=Lib.hid hr2
 have H1:=Lib.hid h1;have H2:=Lib.hid h2;have H3:=Lib.hid h3;have L3:=Lib.hid l3
 have K1:=Lib.hid k1;have K2:=Lib.hid k2;have K3:=Lib.hid k3
 clear h h1 h2 h3 k1 k2 k3 l1 l2 l3 hr hr2
 show Calls Tryz.prog 77 #[.agg #[.slice A1 n1 c1,.slice A2 n2 c2,.slice A3 n3 c3]] w _
 obtain⟨wb,hwb⟩:∃wb,w.alloc (.cells #[.slice A1 n1 c1,.slice A2 n2 c2,.slice A3 n3 c3] 56)=wb:=⟨_,rfl⟩
 have f0:Below w.heap.size w wb:=by rw[←hwb];exact (Below.refl _ _).alloc (Nat.le_refl _) _
 have kb:Blk wb w.heap.size 56 [.slice A1 n1 c1,.slice A2 n2 c2,.slice A3 n3 c3]:=by rw[←hwb];exact Blk.newAt rfl _ #[.slice A1 n1 c1,.slice A2 n2 c2,.slice A3 n3 c3]
 have e0:=kb.cell 0;have e1:=kb.cell 1;have e2:=kb.cell 2
 have hm:=rtMayAll_any A1 n1 c1 s.names wb ((H1.out.below f0).more f0.size) (by omega) K1.out.len
 obtain⟨m1,hm1⟩:∃m,allMay s.names=m:=⟨_,rfl⟩
 rw[hm1] at hm HR
 go_enter Tryz.func77,Tryz.ntmps77
 go_wp2_with fail
 refine hm.mono ?_
 rintro e w1 ⟨rfl,f1⟩
 replace kb:=kb.below f1 kb.lt
 replace f0:=f0.trans (f1.mono f0.size)
 clear hm e0 e1 e2 f1 hwb hm1
 have e0:=kb.cell 0;have e1:=kb.cell 1;have e2:=kb.cell 2
 cases m1
 ·obtain rfl:r=false:=HR.out
  go_wp2_with fail
  go_ret
  exact⟨rfl,f0⟩
 have hm:=rtMayAll_any A2 n2 c2 s.spaces w1 ((H2.out.below f0).more f0.size) (by omega) K2.out.len
 obtain⟨m2,hm2⟩:∃m,allMay s.spaces=m:=⟨_,rfl⟩
 rw[hm2,Bool.true_and] at HR
 rw[hm2] at hm
 go_wp2_with fail
 refine hm.mono ?_
 rintro e w2 ⟨rfl,f1⟩
 replace kb:=kb.below f1 kb.lt
 replace f0:=f0.trans (f1.mono f0.size)
 clear hm e0 e1 e2 f1 hm2
 have e0:=kb.cell 0;have e1:=kb.cell 1;have e2:=kb.cell 2
 cases m2
 ·obtain rfl:r=false:=HR.out
  go_wp2_with fail
  go_ret
  exact⟨rfl,f0⟩
 rw[Bool.true_and] at HR
 by_cases h6:6<n3
 ·have d1:decide ((6:Int)<(n3:Int))=true:=by simp;omega
  obtain rfl:r=false:=by rw[HR.out,decide_eq_false (show ¬n3≤6 by omega),Bool.false_and]
  go_wp2_with fail
  go_ret
  exact⟨rfl,f0⟩
 have d1:decide ((6:Int)<(n3:Int))=false:=by simp;omega
 rw[decide_eq_true (show n3≤6 by omega),Bool.true_and] at HR
 go_wp2_with fail
 clear e0 e1 e2 d1
 go_loopw [3] (fun i wr=>∃k:Nat,k≤n3∧i=.int .i64 k∧Below w.heap.size w wr∧Blk wr w.heap.size 56 [.slice A1 n1 c1,.slice A2 n2 c2,.slice A3 n3 c3]∧(∀j (hj:j<s.nets.length),j<k→nMay s.nets[j]=true)) (fun i _=>n3-(intOf i).toNat)
 case atStart=>exact⟨0,by omega,rfl,f0,kb,fun j hj hj2=>absurd hj2 (by omega)⟩
 case round =>
  obtain⟨k,hk,rfl,f1,kb,hall⟩:=hrel
  have HALL:=Lib.hid hall
  clear hall
  have e2:=kb.cell 2
  by_cases hlt:k<n3
  ·have d5:decide ((k:Int)<(n3:Int))=true:=by simp;omega
   have b1:(0:Int)≤(k:Int):=by omega
   have b2:(k:Int)<(n3:Int):=by omega
   have hkL:k<s.nets.length:=by rw[L3.out];exact hlt
   obtain⟨b,off,p1,p2,p3⟩:=(H3.out.below f1).2 (by omega)
   have q0:wr.cell? ⟨b,off+k*2,none⟩=some (.int .u32 ((s.nets[k]'hkL).1:Int)):=p3 k hkL 0 _ rfl
   have q1:wr.cell? ⟨b,off+k*2+1,none⟩=some (.int .i64 (s.nets[k]'hkL).2):=p3 k hkL 1 _ rfl
   clear p3
   have hm:=refMay_any (s.nets[k]'hkL).1 (s.nets[k]'hkL).2 wr (K3.out.2 _ (List.getElem_mem hkL))
   have ht:nMay ((s.nets[k]'hkL).1,(s.nets[k]'hkL).2)=nMay (s.nets[k]'hkL):=rfl
   rw[ht] at hm
   obtain⟨x,hx⟩:∃x,nMay (s.nets[k]'hkL)=x:=⟨_,rfl⟩
   rw[hx] at hm
   have HX:=Lib.hid hx
   clear hx ht
   generalize (s.nets[k]'hkL).1=ka at *
   generalize (s.nets[k]'hkL).2=kc at *
   unfold ntV at hm
   subst p1
   go_wp2_with fail
   refine hm.mono ?_
   rintro e w3 ⟨rfl,g2⟩
   have f2:=g2.below
   replace kb:=kb.below f2 kb.lt
   replace f1:=f1.trans (f2.mono f1.size)
   clear q0 q1 f2 g2 hm e2
   cases x
   ·obtain rfl:r=false:=by rw[HR.out];exact all_no hkL HX.out
    go_wp2_with fail
    go_ret
    exact⟨rfl,f1⟩
   go_wp2_with fail
   go_roundw
   case rel =>
    refine⟨k+1,by omega,by go_num,f1,kb,fun j hj hj2=>?_⟩
    by_cases hjk:j=k
    ·subst hjk;exact HX.out
    exact HALL.out j hj (by omega)
   case measure=>simp[intOf];omega
  have d5:decide ((k:Int)<(n3:Int))=false:=by simp;omega
  obtain rfl:r=true:=by rw[HR.out];exact all_yes fun j hj=>HALL.out j hj (by rw[L3.out] at hj;omega)
  go_wp2_with fail
  go_ret
  exact⟨rfl,f1⟩
theorem nodup_no{L:List Int}{j k:Nat}(hk:k<L.length)(hj:j<k)(h:L[j]'(by omega)=L[k]):decide L.Nodup=false:=by
 refine decide_eq_false fun hn=>?_
 have:=List.pairwise_iff_getElem.1 hn j k (by omega) hk hj
 exact this h
theorem nodup_yes{L:List Int}(h:∀i j (hi:i<L.length) (hj:j<L.length),i<j→L[i]≠L[j]):decide L.Nodup=true :=
 decide_eq_true (List.pairwise_iff_getElem.2 fun i j hi hj hij=>h i j hi hj hij)
set_option maxRecDepth 100000 in
set_option maxHeartbeats 2000000 in
theorem rtarget_any(t:Tg)(cs:List Value)(w:World)(h:TgP w w.heap.size cs t)(hok:okTg t) :
  Calls Tryz.prog 78 #[.agg cs.toArray] w fun e w'=>e=.returned (.bool (tgMay t))∧Below w.heap.size w w':=by
 obtain⟨A1,n1,c1,A2,n2,c2,A3,n3,c3,A4,n4,c4,rfl,h1,h2,h3,h4⟩:=vals_tg h
 obtain⟨k1,k2,k3,k4⟩:=hok
 have l1:=h1.1;have l2:=h2.1;have l3:=h3.1;have l4:=h4.1
 have hn1:n1≤1000000:=by rw[←l1];exact k1.1
 have hn2:n2≤1000000:=by rw[←l2];exact k2.1
 have hn3:n3≤1000000:=by rw[←l3];exact k3.1
 have hn4:n4≤1000000:=by rw[←l4];exact k4.1
 obtain⟨r,hr⟩:∃r,tgMay t=r:=⟨_,rfl⟩
 rw[hr]
 have hr2:r=(allMay t.methods&&(allMay t.paths&&(allMay t.hosts&&(decide (n1≤6)&&(t.ports.all portMay&&decide t.ports.Nodup))))):=by
  rw[←hr,←l1]
  unfold tgMay rowsMay
  simp only[List.all_cons,List.all_nil,Bool.and_true,Bool.and_assoc]
 have HR:=Lib.hid hr2
 have H1:=Lib.hid h1;have H2:=Lib.hid h2;have H3:=Lib.hid h3;have H4:=Lib.hid h4;have L1:=Lib.hid l1
 have K2:=Lib.hid k2;have K3:=Lib.hid k3;have K4:=Lib.hid k4
 clear h h1 h2 h3 h4 k1 k2 k3 k4 l1 l2 l3 l4 hr hr2
 show Calls Tryz.prog 78 #[.agg #[.slice A1 n1 c1,.slice A2 n2 c2,.slice A3 n3 c3,.slice A4 n4 c4]] w _
 obtain⟨wb,hwb⟩:∃wb,w.alloc (.cells #[.slice A1 n1 c1,.slice A2 n2 c2,.slice A3 n3 c3,.slice A4 n4 c4] 45)=wb:=⟨_,rfl⟩
 have f0:Below w.heap.size w wb:=by rw[←hwb];exact (Below.refl _ _).alloc (Nat.le_refl _) _
 have kb:Blk wb w.heap.size 45 [.slice A1 n1 c1,.slice A2 n2 c2,.slice A3 n3 c3,.slice A4 n4 c4]:=by rw[←hwb];exact Blk.newAt rfl _ #[.slice A1 n1 c1,.slice A2 n2 c2,.slice A3 n3 c3,.slice A4 n4 c4]
 have e0:=kb.cell 0;have e1:=kb.cell 1;have e2:=kb.cell 2;have e3:=kb.cell 3
 have hm:=rtMayAll_any A2 n2 c2 t.methods wb ((H2.out.below f0).more f0.size) (by omega) K2.out.len
 obtain⟨m2,hm2⟩:∃m,allMay t.methods=m:=⟨_,rfl⟩
 rw[hm2] at HR
 rw[hm2] at hm
 go_enter Tryz.func78,Tryz.ntmps78
 go_wp2_with fail
 refine hm.mono ?_
 rintro e w1 ⟨rfl,f1⟩
 replace kb:=kb.below f1 kb.lt
 replace f0:=f0.trans (f1.mono f0.size)
 clear hm e0 e1 e2 e3 f1 hm2
 have e0:=kb.cell 0;have e1:=kb.cell 1;have e2:=kb.cell 2;have e3:=kb.cell 3
 cases m2
 ·obtain rfl:r=false:=HR.out
  go_wp2_with fail
  go_ret
  exact⟨rfl,f0⟩
 have hm:=rtMayAll_any A3 n3 c3 t.paths w1 ((H3.out.below f0).more f0.size) (by omega) K3.out.len
 obtain⟨m3,hm3⟩:∃m,allMay t.paths=m:=⟨_,rfl⟩
 rw[hm3,Bool.true_and] at HR
 rw[hm3] at hm
 go_wp2_with fail
 refine hm.mono ?_
 rintro e w2 ⟨rfl,f1⟩
 replace kb:=kb.below f1 kb.lt
 replace f0:=f0.trans (f1.mono f0.size)
 clear hm e0 e1 e2 e3 f1 hm3
 have e0:=kb.cell 0;have e1:=kb.cell 1;have e2:=kb.cell 2;have e3:=kb.cell 3
 cases m3
 ·obtain rfl:r=false:=HR.out
  go_wp2_with fail
  go_ret
  exact⟨rfl,f0⟩
 have hm:=rtMayAll_any A4 n4 c4 t.hosts w2 ((H4.out.below f0).more f0.size) (by omega) K4.out.len
 obtain⟨m4,hm4⟩:∃m,allMay t.hosts=m:=⟨_,rfl⟩
 rw[hm4,Bool.true_and] at HR
 rw[hm4] at hm
 go_wp2_with fail
 refine hm.mono ?_
 rintro e w3 ⟨rfl,f1⟩
 replace kb:=kb.below f1 kb.lt
 replace f0:=f0.trans (f1.mono f0.size)
 clear hm e0 e1 e2 e3 f1 hm4
 have e0:=kb.cell 0;have e1:=kb.cell 1;have e2:=kb.cell 2;have e3:=kb.cell 3
 cases m4
 ·obtain rfl:r=false:=HR.out
  go_wp2_with fail
  go_ret
  exact⟨rfl,f0⟩
 rw[Bool.true_and] at HR
 by_cases h6:6<n1
 ·have d1:decide ((6:Int)<(n1:Int))=true:=by simp;omega
  obtain rfl:r=false:=by rw[HR.out,decide_eq_false (show ¬n1≤6 by omega),Bool.false_and]
  go_wp2_with fail
  go_ret
  exact⟨rfl,f0⟩
 have d1:decide ((6:Int)<(n1:Int))=false:=by simp;omega
 rw[decide_eq_true (show n1≤6 by omega),Bool.true_and] at HR
 go_wp2_with fail
 clear e0 e1 e2 e3 d1 hwb
 go_loopw [3,4] (fun i _ wr=>∃k:Nat,k≤n1∧i=.int .i64 k∧Below w.heap.size w wr∧Blk wr w.heap.size 45 [.slice A1 n1 c1,.slice A2 n2 c2,.slice A3 n3 c3,.slice A4 n4 c4]∧(∀j (hj:j<t.ports.length),j<k→portMay t.ports[j]=true)∧(∀i j (hi:i<t.ports.length) (hj:j<t.ports.length),j<k→i<j→t.ports[i]≠t.ports[j])) (fun i _ _=>n1-(intOf i).toNat)
 case atStart=>exact⟨0,by omega,rfl,f0,kb,fun j hj hj2=>absurd hj2 (by omega),fun i j hi hj hj2=>absurd hj2 (by omega)⟩
 case round =>
  obtain⟨k,hk,rfl,f1,kb,hall,hnd⟩:=hrel
  have HALL:=Lib.hid hall;have HND:=Lib.hid hnd
  clear hall hnd
  have e0:=kb.cell 0
  by_cases hlt:k<n1
  ·have d5:decide ((k:Int)<(n1:Int))=true:=by simp;omega
   have b1:(0:Int)≤(k:Int):=by omega
   have b2:(k:Int)<(n1:Int):=by omega
   have hkL:k<t.ports.length:=by rw[L1.out];exact hlt
   obtain⟨b,off,p1,p2,q1⟩:=(H1.out.below f1).inE hkL
   obtain⟨y,hy⟩:∃y,t.ports[k]=y:=⟨_,rfl⟩
   rw[hy] at q1
   have HY:=Lib.hid hy;clear hy
   subst p1
   by_cases y1:y<1
   ·have x1:decide (y<1)=true:=by simp;omega
    obtain rfl:r=false:=by rw[HR.out,all_no hkL (by rw[HY.out];unfold portMay;rw[decide_eq_false (show ¬1≤y by omega),Bool.false_and]),Bool.false_and]
    clear y1
    go_wp2_with fail
    go_ret
    exact⟨rfl,f1⟩
   have x1:decide (y<1)=false:=by simp;omega
   by_cases y2:65535<y
   ·have x2:decide (65535<y)=true:=by simp;omega
    obtain rfl:r=false:=by rw[HR.out,all_no hkL (by rw[HY.out];unfold portMay;rw[decide_eq_false (show ¬y≤65535 by omega),Bool.and_false]),Bool.false_and]
    clear y2
    go_wp2_with fail
    go_ret
    exact⟨rfl,f1⟩
   have x2:decide (65535<y)=false:=by simp;omega
   have HPM:=Lib.hid (show portMay y=true by unfold portMay;simp;omega)
   go_wp2_with fail
   clear e0 q1 x1 x2
   go_loopw [4] (fun v4 wr=>∃j:Nat,j≤k∧v4=.int .i64 j∧Below w.heap.size w wr∧Blk wr w.heap.size 45 [.slice (some ⟨b,off,none⟩) n1 c1,.slice A2 n2 c2,.slice A3 n3 c3,.slice A4 n4 c4]∧(∀i (hi:i<t.ports.length),i<j→t.ports[i]≠y)) (fun v4 _=>k-(intOf v4).toNat)
   case atStart=>exact⟨0,by omega,rfl,f1,kb,fun i hi hi2=>absurd hi2 (by omega)⟩
   case round =>
    obtain⟨j,hj,rfl,f1,kb,hin⟩:=hrel
    have HIN:=Lib.hid hin;clear hin
    have e0:=kb.cell 0
    by_cases hjk:j<k
    ·have d6:decide ((j:Int)<(k:Int))=true:=by simp;omega
     have b3:(0:Int)≤(j:Int):=by omega
     have b4:(j:Int)<(n1:Int):=by omega
     have hjL:j<t.ports.length:=by omega
     obtain⟨b',off',p1,p2,q0⟩:=(H1.out.below f1).inE hjL
     obtain⟨b',off',p3,p4,q1⟩:=(H1.out.below f1).inE hkL
     injection p1 with p1;injection p1 with p1 p5;subst p1 p5
     injection p3 with p3;injection p3 with p3 p5;subst p3 p5
     rw[HY.out] at q1
     obtain⟨x,hx⟩:∃x,t.ports[j]=x:=⟨_,rfl⟩
     rw[hx] at q0
     have HX:=Lib.hid hx;clear hx
     by_cases hxy:x=y
     ·have x3:(x==y)=true:=by simp[hxy]
      obtain rfl:r=false:=by rw[HR.out,nodup_no hkL hjk (by rw[HX.out,HY.out];exact hxy),Bool.and_false]
      clear hxy
      go_upto_region 11 with fail
      refine wp_region_order (fun u=>Below wr.heap.size wr u∧(u.cell? ⟨w.heap.size,0,none⟩=some (.slice (some ⟨b,off,none⟩) n1 c1)∧u.cell? ⟨b,off+j,none⟩=some (.int .i64 x)∧u.cell? ⟨b,off+k,none⟩=some (.int .i64 y))) 99 [(0,0),(1,0),(2,0),(3,0),(4,0),(5,0),(6,0),(7,0),(8,0),(9,0),(10,0)] (by kernel_rfl) (by kernel_rfl) ?_
      simp only[pick,List.filterMap_cons,List.filterMap_nil,List.getElem?_cons_zero,List.getElem?_cons_succ,Option.map_some]
      have hS:Below wr.heap.size wr wr.drew∧(wr.drew.cell? ⟨w.heap.size,0,none⟩=some (.slice (some ⟨b,off,none⟩) n1 c1)∧wr.drew.cell? ⟨b,off+j,none⟩=some (.int .i64 x)∧wr.drew.cell? ⟨b,off+k,none⟩=some (.int .i64 y)):=⟨(Below.refl _ _).drew,e0,q0,q1⟩
      generalize wr.drew=wd at *
      iterate 11 (refine wpF_take (v:=?_) hS rfl ?_ (fun _ _ _ h=>h) ?_;rotate_left;(· intro w' hS';obtain⟨_,e0,q0,q1⟩:=hS';go_simp<;>rfl);go_simp)
      refine wpF_nil ?_
      go_wp2_with fail
      go_ret
      exact⟨rfl,f1.trans (hS.1.mono f1.size)⟩
     have x3:(x==y)=false:=by simp[hxy]
     have HXY:=Lib.hid hxy;clear hxy
     go_upto_region 11 with fail
     refine wp_region_order (fun u=>Below wr.heap.size wr u∧(u.cell? ⟨w.heap.size,0,none⟩=some (.slice (some ⟨b,off,none⟩) n1 c1)∧u.cell? ⟨b,off+j,none⟩=some (.int .i64 x)∧u.cell? ⟨b,off+k,none⟩=some (.int .i64 y))) 99 [(0,0),(1,0),(2,0),(3,0),(4,0),(5,0),(6,0),(7,0),(8,0),(9,0),(10,0)] (by kernel_rfl) (by kernel_rfl) ?_
     simp only[pick,List.filterMap_cons,List.filterMap_nil,List.getElem?_cons_zero,List.getElem?_cons_succ,Option.map_some]
     have hS:Below wr.heap.size wr wr.drew∧(wr.drew.cell? ⟨w.heap.size,0,none⟩=some (.slice (some ⟨b,off,none⟩) n1 c1)∧wr.drew.cell? ⟨b,off+j,none⟩=some (.int .i64 x)∧wr.drew.cell? ⟨b,off+k,none⟩=some (.int .i64 y)):=⟨(Below.refl _ _).drew,e0,q0,q1⟩
     generalize wr.drew=wd at *
     iterate 11 (refine wpF_take (v:=?_) hS rfl ?_ (fun _ _ _ h=>h) ?_;rotate_left;(· intro w' hS';obtain⟨_,e0,q0,q1⟩:=hS';go_simp<;>rfl);go_simp)
     refine wpF_nil ?_
     go_wp2_with fail
     go_roundw
     case rel =>
      refine⟨j+1,by omega,by go_num,f1.trans (hS.1.mono f1.size),kb.below hS.1 kb.lt,fun i hi hi2=>?_⟩
      by_cases hij:i=j
      ·subst hij;rw[HX.out];exact HXY.out
      exact HIN.out i hi (by omega)
     case measure=>simp[intOf];omega
    have d6:decide ((j:Int)<(k:Int))=false:=by simp;omega
    go_wp2_with fail
    go_roundw
    case rel =>
     refine⟨k+1,by omega,by go_num,f1,kb,fun i hi hi2=>?_,fun i i' hi hi' h1 h2=>?_⟩
     ·by_cases hik:i=k
      ·subst hik;rw[HY.out];exact HPM.out
      exact HALL.out i hi (by omega)
     by_cases hik:i'=k
     ·subst hik;rw[HY.out];exact HIN.out i hi (by omega)
     exact HND.out i i' hi hi' (by omega) h2
    case measure=>simp[intOf];omega
  have d5:decide ((k:Int)<(n1:Int))=false:=by simp;omega
  obtain rfl:r=true:=by rw[HR.out,all_yes (fun j hj=>HALL.out j hj (by rw[L1.out] at hj;omega)),nodup_yes (fun i j hi hj hij=>HND.out i j hi hj (by rw[L1.out] at hj;omega) hij)];rfl
  go_wp2_with fail
  go_ret
  exact⟨rfl,f1⟩
def goodB(C:Nat):Bool:=(decide (97≤C)&&decide (C≤122))||(decide (48≤C)&&decide (C≤57))
def moreL:List Nat:=[33,35,36,37,38,39,42,43,45,46,94,95,96,124,126]
theorem hd_good_nat:∀n:Fin 256,hdOk (UInt8.ofNat n.val)=(goodB n.val||moreL.any (·==n.val)):=by decide +kernel
theorem hd_good(c:UInt8):hdOk c=(goodB c.toNat||moreL.any (·==c.toNat)):=by
 have h:=hd_good_nat ⟨c.toNat,c.toNat_lt⟩
 simpa using h
theorem more_at(j:Nat)(h:j<15)(h2:j<(⟨#[33,35,36,37,38,39,42,43,45,46,94,95,96,124,126]⟩:ByteArray).size):((⟨#[33,35,36,37,38,39,42,43,45,46,94,95,96,124,126]⟩:ByteArray)[j]'h2).toNat=moreL.getD j 0:=by
 rcases j with _|_|_|_|_|_|_|_|_|_|_|_|_|_|_|j<;>first|rfl|omega
theorem more_next{j:Nat}(h:j<15)(C:Nat):(moreL.take (j+1)).any (·==C)=((moreL.take j).any (·==C)||moreL.getD j 0==C):=by
 have hl:j<moreL.length:=h
 rw[List.take_succ_eq_append_getElem hl,List.any_append]
 simp[List.getD,hl]
theorem rhd_no{l:List UInt8}{i:Nat}(hi:i<l.length)(h:(goodB (at8 l i).toNat||moreL.any (·==(at8 l i).toNat))=false):hdMay l=false:=by
 have e:l.all hdOk=false:=by
  rw[List.all_eq_false]
  refine⟨at8 l i,?_,?_⟩
  ·simp[at8,List.getD,hi]
  rw[hd_good,h];simp
 unfold hdMay
 rw[e,Bool.false_and]
theorem rhd_yes{l:List UInt8}(h:∀i,i<l.length→(goodB (at8 l i).toNat||moreL.any (·==(at8 l i).toNat))=true):hdMay l=(decide (1≤l.length)&&decide (l.length≤64)):=by
 have e:l.all hdOk=true:=by
  rw[List.all_eq_true]
  intro x hx
  obtain⟨i,hi,rfl⟩:=List.getElem_of_mem hx
  have:=h i hi
  rw[hd_good]
  simpa [at8,List.getD,hi] using this
 unfold hdMay
 rw[e,Bool.true_and]
theorem rhd_size{l:List UInt8}(h:l.length<1∨64<l.length):hdMay l=false:=by
 unfold hdMay
 rcases h with h|h
 ·rw[decide_eq_false (show ¬1≤l.length by omega)];simp
 rw[decide_eq_false (show ¬l.length≤64 by omega)];simp
set_option maxRecDepth 100000 in
set_option maxHeartbeats 4000000 in
theorem rhName_any(l:List UInt8)(w:World)(hl:l.length≤9223372036854775807) :
  Calls Tryz.prog 79 #[.string (strB l)] w fun e w'=>e=.returned (.bool (hdMay l))∧Below w.heap.size w w':=by
 obtain⟨r,hr⟩:∃r,hdMay l=r:=⟨_,rfl⟩
 rw[hr]
 have HR:=Lib.hid hr;clear hr
 have hsz:=strB_size l
 generalize hs:strB l=s at *
 have hat:∀k (h:k<s.size),(s[k]'h).toNat=(at8 l k).toNat:=by subst hs;exact strB_at l
 have Hs:=Lib.hid hs
 have Hat:=Lib.hid hat
 clear hs hat
 generalize hn:l.length=n at *
 have Hn:=Lib.hid hn
 clear hn
 have hout:(n<1∨64<n)→r=false:=fun h=>by rw[←HR.out];exact rhd_size (by rw[Hn.out];exact h)
 have HOUT:=Lib.hid hout;clear hout
 by_cases c0:n<1
 ·have x0:decide ((n:Int)<1)=true:=by simp;omega
  obtain rfl:=HOUT.out (by omega)
  clear c0
  go_enter Tryz.func79,Tryz.ntmps79
  go_wp2_with fail
  go_ret
  exact⟨rfl,Below.refl _ _⟩
 have x0:decide ((n:Int)<1)=false:=by simp;omega
 by_cases c1:64<n
 ·have x1:decide ((64:Int)<(n:Int))=true:=by simp;omega
  obtain rfl:=HOUT.out (by omega)
  clear c1
  go_enter Tryz.func79,Tryz.ntmps79
  go_wp2_with fail
  go_ret
  exact⟨rfl,Below.refl _ _⟩
 have x1:decide ((64:Int)<(n:Int))=false:=by simp;omega
 go_enter Tryz.func79,Tryz.ntmps79
 go_wp2_with fail
 clear x0 x1
 go_loopw [3,4,5] (fun i _ _ wr=>∃k:Nat,k≤n∧i=.int .i64 k∧Below w.heap.size w wr∧(∀j,j<k→(goodB (at8 l j).toNat||moreL.any (·==(at8 l j).toNat))=true)) (fun i _ _ _=>n-(intOf i).toNat)
 case atStart=>exact⟨0,by omega,rfl,Below.refl _ _,fun j hj=>absurd hj (by omega)⟩
 case round =>
  obtain⟨k,hk,rfl,f1,hok⟩:=hrel
  have Hok:=Lib.hid hok
  clear hok
  by_cases hlt:k<n
  ·have d5:decide ((k:Int)<(n:Int))=true:=by simp;omega
   have b1:(0:Int)≤(k:Int):=by omega
   have b2:(k:Int)<(n:Int):=by omega
   have qk:(s[k]'(by omega)).toNat=(at8 l k).toNat:=Hat.out k (by omega)
   generalize hC:(at8 l k).toNat=C at *
   have HC:=Lib.hid hC
   clear hC
   have hno:(goodB C||moreL.any (·==C))=false→r=false:=fun h=>by rw[←HR.out];exact rhd_no (i:=k) (by rw[Hn.out];omega) (by rw[HC.out];exact h)
   have HNO:=Lib.hid hno;clear hno
   by_cases h1:97≤C
   ·have y1:decide ((97:Int)≤(C:Int))=true:=by simp;omega
    by_cases h2:C≤122
    ·have y2:decide ((C:Int)≤122)=true:=by simp;omega
     have hG:goodB C=true:=by unfold goodB;simp;omega
     go_wp2_with fail
     clear qk
     obtain⟨gq,hgq⟩:∃f:Nat→Bool,∀j,f j=(goodB C||(moreL.take j).any (·==C)):=⟨_,fun _=>rfl⟩
     have g0:gq 0=true:=by rw[hgq,hG];rfl
     have GQ:=Lib.hid hgq
     clear hgq hG
     go_loopw [4,5] (fun v4 v5 wr=>∃j:Nat,j≤15∧v5=.int .i64 j∧v4=.bool (gq j)∧Below w.heap.size w wr) (fun _ v5 _=>15-(intOf v5).toNat)
     case atStart=>exact⟨0,by omega,rfl,by rw[g0],f1⟩
     case round =>
      obtain⟨j,hj,rfl,rfl,f1⟩:=hrel
      clear g0
      by_cases h15:j<15
      ·have e5:decide ((j:Int)<15)=true:=by simp;omega
       have b3:(0:Int)≤(j:Int):=by omega
       have b4:(j:Int)<15:=by omega
       have qk:(s[k]'(by omega)).toNat=C:=by rw[Hat.out k (by omega)];exact HC.out
       have qm:((⟨#[33,35,36,37,38,39,42,43,45,46,94,95,96,124,126]⟩:ByteArray)[j]'(show j<(⟨#[33,35,36,37,38,39,42,43,45,46,94,95,96,124,126]⟩:ByteArray).size from h15)).toNat=moreL.getD j 0:=more_at j h15 _
       have hnx:=more_next h15 C
       obtain⟨M,hM⟩:∃M,moreL.getD j 0=M:=⟨_,rfl⟩
       rw[hM] at qm hnx
       have hnx2:gq (j+1)=(gq j||(M==C)):=by rw[GQ.out,GQ.out,hnx,Bool.or_assoc]
       have HNX:=Lib.hid hnx2
       clear hnx hM hnx2
       obtain⟨q,hq⟩:∃q,gq j=q:=⟨_,rfl⟩
       have HQ:=Lib.hid hq
       rw[hq]
       clear hq
       cases q
       ·by_cases hCM:C=M
        ·have HME:=Lib.hid (show (M==C)=true by simp[hCM])
         have y:((C:Int)==(M:Int))=true:=by simp[hCM]
         clear hCM
         go_upto_region 10 with fail
         refine wp_region_order (fun u=>Below wr.heap.size wr u) 99 [(0,0),(1,0),(2,0),(3,0),(4,0),(5,0),(6,0),(7,0),(8,0),(9,0)] (by kernel_rfl) (by kernel_rfl) ?_
         simp only[pick,List.filterMap_cons,List.filterMap_nil,List.getElem?_cons_zero,List.getElem?_cons_succ,Option.map_some]
         have hS:Below wr.heap.size wr wr.drew:=(Below.refl _ _).drew
         generalize wr.drew=wd at *
         iterate 10 (refine wpF_take (v:=?_) hS rfl ?_ (fun _ _ _ h=>h) ?_;rotate_left;(· intro w' hS';obtain _:=hS';go_simp<;>rfl);go_simp)
         refine wpF_nil ?_
         go_wp2_with fail
         go_roundw
         case rel=>exact⟨j+1,by omega,by go_num,by rw[HNX.out,HQ.out,HME.out];rfl,f1.trans (hS.mono f1.size)⟩
         case measure=>simp[intOf];omega
        have HME:=Lib.hid (show (M==C)=false by simp;omega)
        have y:((C:Int)==(M:Int))=false:=by simp;omega
        clear hCM
        go_upto_region 10 with fail
        refine wp_region_order (fun u=>Below wr.heap.size wr u) 99 [(0,0),(1,0),(2,0),(3,0),(4,0),(5,0),(6,0),(7,0),(8,0),(9,0)] (by kernel_rfl) (by kernel_rfl) ?_
        simp only[pick,List.filterMap_cons,List.filterMap_nil,List.getElem?_cons_zero,List.getElem?_cons_succ,Option.map_some]
        have hS:Below wr.heap.size wr wr.drew:=(Below.refl _ _).drew
        generalize wr.drew=wd at *
        iterate 10 (refine wpF_take (v:=?_) hS rfl ?_ (fun _ _ _ h=>h) ?_;rotate_left;(· intro w' hS';obtain _:=hS';go_simp<;>rfl);go_simp)
        refine wpF_nil ?_
        go_wp2_with fail
        go_roundw
        case rel=>exact⟨j+1,by omega,by go_num,by rw[HNX.out,HQ.out,HME.out];rfl,f1.trans (hS.mono f1.size)⟩
        case measure=>simp[intOf];omega
       go_upto_region 10 with fail
       refine wp_region_order (fun u=>Below wr.heap.size wr u) 99 [(0,0),(1,0),(2,0),(3,0),(4,0),(5,0),(6,0),(7,0),(8,0),(9,0)] (by kernel_rfl) (by kernel_rfl) ?_
       simp only[pick,List.filterMap_cons,List.filterMap_nil,List.getElem?_cons_zero,List.getElem?_cons_succ,Option.map_some]
       have hS:Below wr.heap.size wr wr.drew:=(Below.refl _ _).drew
       generalize wr.drew=wd at *
       iterate 2 (refine wpF_take (v:=?_) hS rfl ?_ (fun _ _ _ h=>h) ?_;rotate_left;(· intro w' hS';obtain _:=hS';go_simp<;>rfl);go_simp)
       refine wpF_skip hS rfl (fun _ _ _ h=>h) ?_
       go_simp
       refine wpF_skip hS rfl (fun _ _ _ h=>h) ?_
       go_simp
       refine wpF_skip hS rfl (fun _ _ _ h=>h) ?_
       go_simp
       refine wpF_skip hS rfl (fun _ _ _ h=>h) ?_
       go_simp
       refine wpF_skip hS rfl (fun _ _ _ h=>h) ?_
       go_simp
       refine wpF_skip hS rfl (fun _ _ _ h=>h) ?_
       go_simp
       iterate 2 (refine wpF_take (v:=?_) hS rfl ?_ (fun _ _ _ h=>h) ?_;rotate_left;(· intro w' hS';obtain _:=hS';go_simp<;>rfl);go_simp)
       refine wpF_nil ?_
       go_wp2_with fail
       go_roundw
       case rel=>exact⟨j+1,by omega,by go_num,by rw[HNX.out,HQ.out];rfl,f1.trans (hS.mono f1.size)⟩
       case measure=>simp[intOf];omega
      have e5:decide ((j:Int)<15)=false:=by simp;omega
      obtain rfl:j=15:=by omega
      have hq2:gq 15=(goodB C||moreL.any (·==C)):=GQ.out 15
      obtain⟨q,hq⟩:∃q,gq 15=q:=⟨_,rfl⟩
      rw[hq] at hq2 ⊢
      have HQ:=Lib.hid hq2
      clear hq hq2
      cases q
      ·obtain rfl:=HNO.out HQ.out.symm
       go_wp2_with fail
       go_ret
       exact⟨rfl,f1⟩
      go_wp2_with fail
      go_roundw
      case rel =>
       refine⟨k+1,by omega,by go_num,f1,fun i hi=>?_⟩
       by_cases hik:i=k
       ·subst hik;rw[HC.out];exact HQ.out.symm
       exact Hok.out i (by omega)
      case measure=>simp[intOf];omega
    have y2:decide ((C:Int)≤122)=false:=by simp;omega
    have y3:decide ((48:Int)≤(C:Int))=true:=by simp;omega
    have y4:decide ((C:Int)≤57)=false:=by simp;omega
    have hG:goodB C=false:=by unfold goodB;simp;omega
    go_wp2_with fail
    clear qk
    obtain⟨gq,hgq⟩:∃f:Nat→Bool,∀j,f j=(goodB C||(moreL.take j).any (·==C)):=⟨_,fun _=>rfl⟩
    have g0:gq 0=false:=by rw[hgq,hG];rfl
    have GQ:=Lib.hid hgq
    clear hgq hG
    go_loopw [4,5] (fun v4 v5 wr=>∃j:Nat,j≤15∧v5=.int .i64 j∧v4=.bool (gq j)∧Below w.heap.size w wr) (fun _ v5 _=>15-(intOf v5).toNat)
    case atStart=>exact⟨0,by omega,rfl,by rw[g0],f1⟩
    case round =>
     obtain⟨j,hj,rfl,rfl,f1⟩:=hrel
     clear g0
     by_cases h15:j<15
     ·have e5:decide ((j:Int)<15)=true:=by simp;omega
      have b3:(0:Int)≤(j:Int):=by omega
      have b4:(j:Int)<15:=by omega
      have qk:(s[k]'(by omega)).toNat=C:=by rw[Hat.out k (by omega)];exact HC.out
      have qm:((⟨#[33,35,36,37,38,39,42,43,45,46,94,95,96,124,126]⟩:ByteArray)[j]'(show j<(⟨#[33,35,36,37,38,39,42,43,45,46,94,95,96,124,126]⟩:ByteArray).size from h15)).toNat=moreL.getD j 0:=more_at j h15 _
      have hnx:=more_next h15 C
      obtain⟨M,hM⟩:∃M,moreL.getD j 0=M:=⟨_,rfl⟩
      rw[hM] at qm hnx
      have hnx2:gq (j+1)=(gq j||(M==C)):=by rw[GQ.out,GQ.out,hnx,Bool.or_assoc]
      have HNX:=Lib.hid hnx2
      clear hnx hM hnx2
      obtain⟨q,hq⟩:∃q,gq j=q:=⟨_,rfl⟩
      have HQ:=Lib.hid hq
      rw[hq]
      clear hq
      cases q
      ·by_cases hCM:C=M
       ·have HME:=Lib.hid (show (M==C)=true by simp[hCM])
        have y:((C:Int)==(M:Int))=true:=by simp[hCM]
        clear hCM
        go_upto_region 10 with fail
        refine wp_region_order (fun u=>Below wr.heap.size wr u) 99 [(0,0),(1,0),(2,0),(3,0),(4,0),(5,0),(6,0),(7,0),(8,0),(9,0)] (by kernel_rfl) (by kernel_rfl) ?_
        simp only[pick,List.filterMap_cons,List.filterMap_nil,List.getElem?_cons_zero,List.getElem?_cons_succ,Option.map_some]
        have hS:Below wr.heap.size wr wr.drew:=(Below.refl _ _).drew
        generalize wr.drew=wd at *
        iterate 10 (refine wpF_take (v:=?_) hS rfl ?_ (fun _ _ _ h=>h) ?_;rotate_left;(· intro w' hS';obtain _:=hS';go_simp<;>rfl);go_simp)
        refine wpF_nil ?_
        go_wp2_with fail
        go_roundw
        case rel=>exact⟨j+1,by omega,by go_num,by rw[HNX.out,HQ.out,HME.out];rfl,f1.trans (hS.mono f1.size)⟩
        case measure=>simp[intOf];omega
       have HME:=Lib.hid (show (M==C)=false by simp;omega)
       have y:((C:Int)==(M:Int))=false:=by simp;omega
       clear hCM
       go_upto_region 10 with fail
       refine wp_region_order (fun u=>Below wr.heap.size wr u) 99 [(0,0),(1,0),(2,0),(3,0),(4,0),(5,0),(6,0),(7,0),(8,0),(9,0)] (by kernel_rfl) (by kernel_rfl) ?_
       simp only[pick,List.filterMap_cons,List.filterMap_nil,List.getElem?_cons_zero,List.getElem?_cons_succ,Option.map_some]
       have hS:Below wr.heap.size wr wr.drew:=(Below.refl _ _).drew
       generalize wr.drew=wd at *
       iterate 10 (refine wpF_take (v:=?_) hS rfl ?_ (fun _ _ _ h=>h) ?_;rotate_left;(· intro w' hS';obtain _:=hS';go_simp<;>rfl);go_simp)
       refine wpF_nil ?_
       go_wp2_with fail
       go_roundw
       case rel=>exact⟨j+1,by omega,by go_num,by rw[HNX.out,HQ.out,HME.out];rfl,f1.trans (hS.mono f1.size)⟩
       case measure=>simp[intOf];omega
      go_upto_region 10 with fail
      refine wp_region_order (fun u=>Below wr.heap.size wr u) 99 [(0,0),(1,0),(2,0),(3,0),(4,0),(5,0),(6,0),(7,0),(8,0),(9,0)] (by kernel_rfl) (by kernel_rfl) ?_
      simp only[pick,List.filterMap_cons,List.filterMap_nil,List.getElem?_cons_zero,List.getElem?_cons_succ,Option.map_some]
      have hS:Below wr.heap.size wr wr.drew:=(Below.refl _ _).drew
      generalize wr.drew=wd at *
      iterate 2 (refine wpF_take (v:=?_) hS rfl ?_ (fun _ _ _ h=>h) ?_;rotate_left;(· intro w' hS';obtain _:=hS';go_simp<;>rfl);go_simp)
      refine wpF_skip hS rfl (fun _ _ _ h=>h) ?_
      go_simp
      refine wpF_skip hS rfl (fun _ _ _ h=>h) ?_
      go_simp
      refine wpF_skip hS rfl (fun _ _ _ h=>h) ?_
      go_simp
      refine wpF_skip hS rfl (fun _ _ _ h=>h) ?_
      go_simp
      refine wpF_skip hS rfl (fun _ _ _ h=>h) ?_
      go_simp
      refine wpF_skip hS rfl (fun _ _ _ h=>h) ?_
      go_simp
      iterate 2 (refine wpF_take (v:=?_) hS rfl ?_ (fun _ _ _ h=>h) ?_;rotate_left;(· intro w' hS';obtain _:=hS';go_simp<;>rfl);go_simp)
      refine wpF_nil ?_
      go_wp2_with fail
      go_roundw
      case rel=>exact⟨j+1,by omega,by go_num,by rw[HNX.out,HQ.out];rfl,f1.trans (hS.mono f1.size)⟩
      case measure=>simp[intOf];omega
     have e5:decide ((j:Int)<15)=false:=by simp;omega
     obtain rfl:j=15:=by omega
     have hq2:gq 15=(goodB C||moreL.any (·==C)):=GQ.out 15
     obtain⟨q,hq⟩:∃q,gq 15=q:=⟨_,rfl⟩
     rw[hq] at hq2 ⊢
     have HQ:=Lib.hid hq2
     clear hq hq2
     cases q
     ·obtain rfl:=HNO.out HQ.out.symm
      go_wp2_with fail
      go_ret
      exact⟨rfl,f1⟩
     go_wp2_with fail
     go_roundw
     case rel =>
      refine⟨k+1,by omega,by go_num,f1,fun i hi=>?_⟩
      by_cases hik:i=k
      ·subst hik;rw[HC.out];exact HQ.out.symm
      exact Hok.out i (by omega)
     case measure=>simp[intOf];omega
   have y1:decide ((97:Int)≤(C:Int))=false:=by simp;omega
   by_cases h3:48≤C
   ·have y3:decide ((48:Int)≤(C:Int))=true:=by simp;omega
    by_cases h4:C≤57
    ·have y4:decide ((C:Int)≤57)=true:=by simp;omega
     have hG:goodB C=true:=by unfold goodB;simp;omega
     go_wp2_with fail
     clear qk
     obtain⟨gq,hgq⟩:∃f:Nat→Bool,∀j,f j=(goodB C||(moreL.take j).any (·==C)):=⟨_,fun _=>rfl⟩
     have g0:gq 0=true:=by rw[hgq,hG];rfl
     have GQ:=Lib.hid hgq
     clear hgq hG
     go_loopw [4,5] (fun v4 v5 wr=>∃j:Nat,j≤15∧v5=.int .i64 j∧v4=.bool (gq j)∧Below w.heap.size w wr) (fun _ v5 _=>15-(intOf v5).toNat)
     case atStart=>exact⟨0,by omega,rfl,by rw[g0],f1⟩
     case round =>
      obtain⟨j,hj,rfl,rfl,f1⟩:=hrel
      clear g0
      by_cases h15:j<15
      ·have e5:decide ((j:Int)<15)=true:=by simp;omega
       have b3:(0:Int)≤(j:Int):=by omega
       have b4:(j:Int)<15:=by omega
       have qk:(s[k]'(by omega)).toNat=C:=by rw[Hat.out k (by omega)];exact HC.out
       have qm:((⟨#[33,35,36,37,38,39,42,43,45,46,94,95,96,124,126]⟩:ByteArray)[j]'(show j<(⟨#[33,35,36,37,38,39,42,43,45,46,94,95,96,124,126]⟩:ByteArray).size from h15)).toNat=moreL.getD j 0:=more_at j h15 _
       have hnx:=more_next h15 C
       obtain⟨M,hM⟩:∃M,moreL.getD j 0=M:=⟨_,rfl⟩
       rw[hM] at qm hnx
       have hnx2:gq (j+1)=(gq j||(M==C)):=by rw[GQ.out,GQ.out,hnx,Bool.or_assoc]
       have HNX:=Lib.hid hnx2
       clear hnx hM hnx2
       obtain⟨q,hq⟩:∃q,gq j=q:=⟨_,rfl⟩
       have HQ:=Lib.hid hq
       rw[hq]
       clear hq
       cases q
       ·by_cases hCM:C=M
        ·have HME:=Lib.hid (show (M==C)=true by simp[hCM])
         have y:((C:Int)==(M:Int))=true:=by simp[hCM]
         clear hCM
         go_upto_region 10 with fail
         refine wp_region_order (fun u=>Below wr.heap.size wr u) 99 [(0,0),(1,0),(2,0),(3,0),(4,0),(5,0),(6,0),(7,0),(8,0),(9,0)] (by kernel_rfl) (by kernel_rfl) ?_
         simp only[pick,List.filterMap_cons,List.filterMap_nil,List.getElem?_cons_zero,List.getElem?_cons_succ,Option.map_some]
         have hS:Below wr.heap.size wr wr.drew:=(Below.refl _ _).drew
         generalize wr.drew=wd at *
         iterate 10 (refine wpF_take (v:=?_) hS rfl ?_ (fun _ _ _ h=>h) ?_;rotate_left;(· intro w' hS';obtain _:=hS';go_simp<;>rfl);go_simp)
         refine wpF_nil ?_
         go_wp2_with fail
         go_roundw
         case rel=>exact⟨j+1,by omega,by go_num,by rw[HNX.out,HQ.out,HME.out];rfl,f1.trans (hS.mono f1.size)⟩
         case measure=>simp[intOf];omega
        have HME:=Lib.hid (show (M==C)=false by simp;omega)
        have y:((C:Int)==(M:Int))=false:=by simp;omega
        clear hCM
        go_upto_region 10 with fail
        refine wp_region_order (fun u=>Below wr.heap.size wr u) 99 [(0,0),(1,0),(2,0),(3,0),(4,0),(5,0),(6,0),(7,0),(8,0),(9,0)] (by kernel_rfl) (by kernel_rfl) ?_
        simp only[pick,List.filterMap_cons,List.filterMap_nil,List.getElem?_cons_zero,List.getElem?_cons_succ,Option.map_some]
        have hS:Below wr.heap.size wr wr.drew:=(Below.refl _ _).drew
        generalize wr.drew=wd at *
        iterate 10 (refine wpF_take (v:=?_) hS rfl ?_ (fun _ _ _ h=>h) ?_;rotate_left;(· intro w' hS';obtain _:=hS';go_simp<;>rfl);go_simp)
        refine wpF_nil ?_
        go_wp2_with fail
        go_roundw
        case rel=>exact⟨j+1,by omega,by go_num,by rw[HNX.out,HQ.out,HME.out];rfl,f1.trans (hS.mono f1.size)⟩
        case measure=>simp[intOf];omega
       go_upto_region 10 with fail
       refine wp_region_order (fun u=>Below wr.heap.size wr u) 99 [(0,0),(1,0),(2,0),(3,0),(4,0),(5,0),(6,0),(7,0),(8,0),(9,0)] (by kernel_rfl) (by kernel_rfl) ?_
       simp only[pick,List.filterMap_cons,List.filterMap_nil,List.getElem?_cons_zero,List.getElem?_cons_succ,Option.map_some]
       have hS:Below wr.heap.size wr wr.drew:=(Below.refl _ _).drew
       generalize wr.drew=wd at *
       iterate 2 (refine wpF_take (v:=?_) hS rfl ?_ (fun _ _ _ h=>h) ?_;rotate_left;(· intro w' hS';obtain _:=hS';go_simp<;>rfl);go_simp)
       refine wpF_skip hS rfl (fun _ _ _ h=>h) ?_
       go_simp
       refine wpF_skip hS rfl (fun _ _ _ h=>h) ?_
       go_simp
       refine wpF_skip hS rfl (fun _ _ _ h=>h) ?_
       go_simp
       refine wpF_skip hS rfl (fun _ _ _ h=>h) ?_
       go_simp
       refine wpF_skip hS rfl (fun _ _ _ h=>h) ?_
       go_simp
       refine wpF_skip hS rfl (fun _ _ _ h=>h) ?_
       go_simp
       iterate 2 (refine wpF_take (v:=?_) hS rfl ?_ (fun _ _ _ h=>h) ?_;rotate_left;(· intro w' hS';obtain _:=hS';go_simp<;>rfl);go_simp)
       refine wpF_nil ?_
       go_wp2_with fail
       go_roundw
       case rel=>exact⟨j+1,by omega,by go_num,by rw[HNX.out,HQ.out];rfl,f1.trans (hS.mono f1.size)⟩
       case measure=>simp[intOf];omega
      have e5:decide ((j:Int)<15)=false:=by simp;omega
      obtain rfl:j=15:=by omega
      have hq2:gq 15=(goodB C||moreL.any (·==C)):=GQ.out 15
      obtain⟨q,hq⟩:∃q,gq 15=q:=⟨_,rfl⟩
      rw[hq] at hq2 ⊢
      have HQ:=Lib.hid hq2
      clear hq hq2
      cases q
      ·obtain rfl:=HNO.out HQ.out.symm
       go_wp2_with fail
       go_ret
       exact⟨rfl,f1⟩
      go_wp2_with fail
      go_roundw
      case rel =>
       refine⟨k+1,by omega,by go_num,f1,fun i hi=>?_⟩
       by_cases hik:i=k
       ·subst hik;rw[HC.out];exact HQ.out.symm
       exact Hok.out i (by omega)
      case measure=>simp[intOf];omega
    have y4:decide ((C:Int)≤57)=false:=by simp;omega
    have hG:goodB C=false:=by unfold goodB;simp;omega
    go_wp2_with fail
    clear qk
    obtain⟨gq,hgq⟩:∃f:Nat→Bool,∀j,f j=(goodB C||(moreL.take j).any (·==C)):=⟨_,fun _=>rfl⟩
    have g0:gq 0=false:=by rw[hgq,hG];rfl
    have GQ:=Lib.hid hgq
    clear hgq hG
    go_loopw [4,5] (fun v4 v5 wr=>∃j:Nat,j≤15∧v5=.int .i64 j∧v4=.bool (gq j)∧Below w.heap.size w wr) (fun _ v5 _=>15-(intOf v5).toNat)
    case atStart=>exact⟨0,by omega,rfl,by rw[g0],f1⟩
    case round =>
     obtain⟨j,hj,rfl,rfl,f1⟩:=hrel
     clear g0
     by_cases h15:j<15
     ·have e5:decide ((j:Int)<15)=true:=by simp;omega
      have b3:(0:Int)≤(j:Int):=by omega
      have b4:(j:Int)<15:=by omega
      have qk:(s[k]'(by omega)).toNat=C:=by rw[Hat.out k (by omega)];exact HC.out
      have qm:((⟨#[33,35,36,37,38,39,42,43,45,46,94,95,96,124,126]⟩:ByteArray)[j]'(show j<(⟨#[33,35,36,37,38,39,42,43,45,46,94,95,96,124,126]⟩:ByteArray).size from h15)).toNat=moreL.getD j 0:=more_at j h15 _
      have hnx:=more_next h15 C
      obtain⟨M,hM⟩:∃M,moreL.getD j 0=M:=⟨_,rfl⟩
      rw[hM] at qm hnx
      have hnx2:gq (j+1)=(gq j||(M==C)):=by rw[GQ.out,GQ.out,hnx,Bool.or_assoc]
      have HNX:=Lib.hid hnx2
      clear hnx hM hnx2
      obtain⟨q,hq⟩:∃q,gq j=q:=⟨_,rfl⟩
      have HQ:=Lib.hid hq
      rw[hq]
      clear hq
      cases q
      ·by_cases hCM:C=M
       ·have HME:=Lib.hid (show (M==C)=true by simp[hCM])
        have y:((C:Int)==(M:Int))=true:=by simp[hCM]
        clear hCM
        go_upto_region 10 with fail
        refine wp_region_order (fun u=>Below wr.heap.size wr u) 99 [(0,0),(1,0),(2,0),(3,0),(4,0),(5,0),(6,0),(7,0),(8,0),(9,0)] (by kernel_rfl) (by kernel_rfl) ?_
        simp only[pick,List.filterMap_cons,List.filterMap_nil,List.getElem?_cons_zero,List.getElem?_cons_succ,Option.map_some]
        have hS:Below wr.heap.size wr wr.drew:=(Below.refl _ _).drew
        generalize wr.drew=wd at *
        iterate 10 (refine wpF_take (v:=?_) hS rfl ?_ (fun _ _ _ h=>h) ?_;rotate_left;(· intro w' hS';obtain _:=hS';go_simp<;>rfl);go_simp)
        refine wpF_nil ?_
        go_wp2_with fail
        go_roundw
        case rel=>exact⟨j+1,by omega,by go_num,by rw[HNX.out,HQ.out,HME.out];rfl,f1.trans (hS.mono f1.size)⟩
        case measure=>simp[intOf];omega
       have HME:=Lib.hid (show (M==C)=false by simp;omega)
       have y:((C:Int)==(M:Int))=false:=by simp;omega
       clear hCM
       go_upto_region 10 with fail
       refine wp_region_order (fun u=>Below wr.heap.size wr u) 99 [(0,0),(1,0),(2,0),(3,0),(4,0),(5,0),(6,0),(7,0),(8,0),(9,0)] (by kernel_rfl) (by kernel_rfl) ?_
       simp only[pick,List.filterMap_cons,List.filterMap_nil,List.getElem?_cons_zero,List.getElem?_cons_succ,Option.map_some]
       have hS:Below wr.heap.size wr wr.drew:=(Below.refl _ _).drew
       generalize wr.drew=wd at *
       iterate 10 (refine wpF_take (v:=?_) hS rfl ?_ (fun _ _ _ h=>h) ?_;rotate_left;(· intro w' hS';obtain _:=hS';go_simp<;>rfl);go_simp)
       refine wpF_nil ?_
       go_wp2_with fail
       go_roundw
       case rel=>exact⟨j+1,by omega,by go_num,by rw[HNX.out,HQ.out,HME.out];rfl,f1.trans (hS.mono f1.size)⟩
       case measure=>simp[intOf];omega
      go_upto_region 10 with fail
      refine wp_region_order (fun u=>Below wr.heap.size wr u) 99 [(0,0),(1,0),(2,0),(3,0),(4,0),(5,0),(6,0),(7,0),(8,0),(9,0)] (by kernel_rfl) (by kernel_rfl) ?_
      simp only[pick,List.filterMap_cons,List.filterMap_nil,List.getElem?_cons_zero,List.getElem?_cons_succ,Option.map_some]
      have hS:Below wr.heap.size wr wr.drew:=(Below.refl _ _).drew
      generalize wr.drew=wd at *
      iterate 2 (refine wpF_take (v:=?_) hS rfl ?_ (fun _ _ _ h=>h) ?_;rotate_left;(· intro w' hS';obtain _:=hS';go_simp<;>rfl);go_simp)
      refine wpF_skip hS rfl (fun _ _ _ h=>h) ?_
      go_simp
      refine wpF_skip hS rfl (fun _ _ _ h=>h) ?_
      go_simp
      refine wpF_skip hS rfl (fun _ _ _ h=>h) ?_
      go_simp
      refine wpF_skip hS rfl (fun _ _ _ h=>h) ?_
      go_simp
      refine wpF_skip hS rfl (fun _ _ _ h=>h) ?_
      go_simp
      refine wpF_skip hS rfl (fun _ _ _ h=>h) ?_
      go_simp
      iterate 2 (refine wpF_take (v:=?_) hS rfl ?_ (fun _ _ _ h=>h) ?_;rotate_left;(· intro w' hS';obtain _:=hS';go_simp<;>rfl);go_simp)
      refine wpF_nil ?_
      go_wp2_with fail
      go_roundw
      case rel=>exact⟨j+1,by omega,by go_num,by rw[HNX.out,HQ.out];rfl,f1.trans (hS.mono f1.size)⟩
      case measure=>simp[intOf];omega
     have e5:decide ((j:Int)<15)=false:=by simp;omega
     obtain rfl:j=15:=by omega
     have hq2:gq 15=(goodB C||moreL.any (·==C)):=GQ.out 15
     obtain⟨q,hq⟩:∃q,gq 15=q:=⟨_,rfl⟩
     rw[hq] at hq2 ⊢
     have HQ:=Lib.hid hq2
     clear hq hq2
     cases q
     ·obtain rfl:=HNO.out HQ.out.symm
      go_wp2_with fail
      go_ret
      exact⟨rfl,f1⟩
     go_wp2_with fail
     go_roundw
     case rel =>
      refine⟨k+1,by omega,by go_num,f1,fun i hi=>?_⟩
      by_cases hik:i=k
      ·subst hik;rw[HC.out];exact HQ.out.symm
      exact Hok.out i (by omega)
     case measure=>simp[intOf];omega
   have y3:decide ((48:Int)≤(C:Int))=false:=by simp;omega
   have hG:goodB C=false:=by unfold goodB;simp;omega
   go_wp2_with fail
   clear qk
   obtain⟨gq,hgq⟩:∃f:Nat→Bool,∀j,f j=(goodB C||(moreL.take j).any (·==C)):=⟨_,fun _=>rfl⟩
   have g0:gq 0=false:=by rw[hgq,hG];rfl
   have GQ:=Lib.hid hgq
   clear hgq hG
   go_loopw [4,5] (fun v4 v5 wr=>∃j:Nat,j≤15∧v5=.int .i64 j∧v4=.bool (gq j)∧Below w.heap.size w wr) (fun _ v5 _=>15-(intOf v5).toNat)
   case atStart=>exact⟨0,by omega,rfl,by rw[g0],f1⟩
   case round =>
    obtain⟨j,hj,rfl,rfl,f1⟩:=hrel
    clear g0
    by_cases h15:j<15
    ·have e5:decide ((j:Int)<15)=true:=by simp;omega
     have b3:(0:Int)≤(j:Int):=by omega
     have b4:(j:Int)<15:=by omega
     have qk:(s[k]'(by omega)).toNat=C:=by rw[Hat.out k (by omega)];exact HC.out
     have qm:((⟨#[33,35,36,37,38,39,42,43,45,46,94,95,96,124,126]⟩:ByteArray)[j]'(show j<(⟨#[33,35,36,37,38,39,42,43,45,46,94,95,96,124,126]⟩:ByteArray).size from h15)).toNat=moreL.getD j 0:=more_at j h15 _
     have hnx:=more_next h15 C
     obtain⟨M,hM⟩:∃M,moreL.getD j 0=M:=⟨_,rfl⟩
     rw[hM] at qm hnx
     have hnx2:gq (j+1)=(gq j||(M==C)):=by rw[GQ.out,GQ.out,hnx,Bool.or_assoc]
     have HNX:=Lib.hid hnx2
     clear hnx hM hnx2
     obtain⟨q,hq⟩:∃q,gq j=q:=⟨_,rfl⟩
     have HQ:=Lib.hid hq
     rw[hq]
     clear hq
     cases q
     ·by_cases hCM:C=M
      ·have HME:=Lib.hid (show (M==C)=true by simp[hCM])
       have y:((C:Int)==(M:Int))=true:=by simp[hCM]
       clear hCM
       go_upto_region 10 with fail
       refine wp_region_order (fun u=>Below wr.heap.size wr u) 99 [(0,0),(1,0),(2,0),(3,0),(4,0),(5,0),(6,0),(7,0),(8,0),(9,0)] (by kernel_rfl) (by kernel_rfl) ?_
       simp only[pick,List.filterMap_cons,List.filterMap_nil,List.getElem?_cons_zero,List.getElem?_cons_succ,Option.map_some]
       have hS:Below wr.heap.size wr wr.drew:=(Below.refl _ _).drew
       generalize wr.drew=wd at *
       iterate 10 (refine wpF_take (v:=?_) hS rfl ?_ (fun _ _ _ h=>h) ?_;rotate_left;(· intro w' hS';obtain _:=hS';go_simp<;>rfl);go_simp)
       refine wpF_nil ?_
       go_wp2_with fail
       go_roundw
       case rel=>exact⟨j+1,by omega,by go_num,by rw[HNX.out,HQ.out,HME.out];rfl,f1.trans (hS.mono f1.size)⟩
       case measure=>simp[intOf];omega
      have HME:=Lib.hid (show (M==C)=false by simp;omega)
      have y:((C:Int)==(M:Int))=false:=by simp;omega
      clear hCM
      go_upto_region 10 with fail
      refine wp_region_order (fun u=>Below wr.heap.size wr u) 99 [(0,0),(1,0),(2,0),(3,0),(4,0),(5,0),(6,0),(7,0),(8,0),(9,0)] (by kernel_rfl) (by kernel_rfl) ?_
      simp only[pick,List.filterMap_cons,List.filterMap_nil,List.getElem?_cons_zero,List.getElem?_cons_succ,Option.map_some]
      have hS:Below wr.heap.size wr wr.drew:=(Below.refl _ _).drew
      generalize wr.drew=wd at *
      iterate 10 (refine wpF_take (v:=?_) hS rfl ?_ (fun _ _ _ h=>h) ?_;rotate_left;(· intro w' hS';obtain _:=hS';go_simp<;>rfl);go_simp)
      refine wpF_nil ?_
      go_wp2_with fail
      go_roundw
      case rel=>exact⟨j+1,by omega,by go_num,by rw[HNX.out,HQ.out,HME.out];rfl,f1.trans (hS.mono f1.size)⟩
      case measure=>simp[intOf];omega
     go_upto_region 10 with fail
     refine wp_region_order (fun u=>Below wr.heap.size wr u) 99 [(0,0),(1,0),(2,0),(3,0),(4,0),(5,0),(6,0),(7,0),(8,0),(9,0)] (by kernel_rfl) (by kernel_rfl) ?_
     simp only[pick,List.filterMap_cons,List.filterMap_nil,List.getElem?_cons_zero,List.getElem?_cons_succ,Option.map_some]
     have hS:Below wr.heap.size wr wr.drew:=(Below.refl _ _).drew
     generalize wr.drew=wd at *
     iterate 2 (refine wpF_take (v:=?_) hS rfl ?_ (fun _ _ _ h=>h) ?_;rotate_left;(· intro w' hS';obtain _:=hS';go_simp<;>rfl);go_simp)
     refine wpF_skip hS rfl (fun _ _ _ h=>h) ?_
     go_simp
     refine wpF_skip hS rfl (fun _ _ _ h=>h) ?_
     go_simp
     refine wpF_skip hS rfl (fun _ _ _ h=>h) ?_
     go_simp
     refine wpF_skip hS rfl (fun _ _ _ h=>h) ?_
     go_simp
     refine wpF_skip hS rfl (fun _ _ _ h=>h) ?_
     go_simp
     refine wpF_skip hS rfl (fun _ _ _ h=>h) ?_
     go_simp
     iterate 2 (refine wpF_take (v:=?_) hS rfl ?_ (fun _ _ _ h=>h) ?_;rotate_left;(· intro w' hS';obtain _:=hS';go_simp<;>rfl);go_simp)
     refine wpF_nil ?_
     go_wp2_with fail
     go_roundw
     case rel=>exact⟨j+1,by omega,by go_num,by rw[HNX.out,HQ.out];rfl,f1.trans (hS.mono f1.size)⟩
     case measure=>simp[intOf];omega
    have e5:decide ((j:Int)<15)=false:=by simp;omega
    obtain rfl:j=15:=by omega
    have hq2:gq 15=(goodB C||moreL.any (·==C)):=GQ.out 15
    obtain⟨q,hq⟩:∃q,gq 15=q:=⟨_,rfl⟩
    rw[hq] at hq2 ⊢
    have HQ:=Lib.hid hq2
    clear hq hq2
    cases q
    ·obtain rfl:=HNO.out HQ.out.symm
     go_wp2_with fail
     go_ret
     exact⟨rfl,f1⟩
    go_wp2_with fail
    go_roundw
    case rel =>
     refine⟨k+1,by omega,by go_num,f1,fun i hi=>?_⟩
     by_cases hik:i=k
     ·subst hik;rw[HC.out];exact HQ.out.symm
     exact Hok.out i (by omega)
    case measure=>simp[intOf];omega
  have d5:decide ((k:Int)<(n:Int))=false:=by simp;omega
  obtain rfl:r=true:=by
   rw[←HR.out,rhd_yes (fun i hi=>Hok.out i (by rw[Hn.out] at hi;omega)),Hn.out]
   simp
   omega
  go_wp2_with fail
  go_ret
  exact⟨rfl,f1⟩
set_option maxRecDepth 100000 in
set_option maxHeartbeats 4000000 in
theorem rmayRule_any(r:Ru)(cs:List Value)(w:World)(h:RuP w w.heap.size cs r)(hok:okRu r) :
  Calls Tryz.prog 45 #[.agg cs.toArray] w fun e w'=>e=.returned (.bool (ruMay r))∧Below w.heap.size w w':=by
 obtain⟨A1,n1,c1,A2,n2,c2,A3,n3,c3,rfl,h1,h2,h3⟩:=vals_ru h
 obtain⟨k1,k2,k3⟩:=hok
 have l1:=h1.1;have l2:=h2.1;have l3:=h3.1
 have hn1:n1≤1000000:=by rw[←l1];exact k1.1
 have hn2:n2≤1000000:=by rw[←l2];exact k2.1
 have hn3:n3≤1000000:=by rw[←l3];exact k3.1
 obtain⟨v,hr⟩:∃v,ruMay r=v:=⟨_,rfl⟩
 rw[hr]
 have hr2:v=((decide (n1≤3)&&r.froms.all srMay)&&((decide (n2≤3)&&r.tos.all tgMay)&&(decide (n3≤3)&&r.whens.all wnMay))):=by
  rw[←hr,←l1,←l2,←l3]
  rfl
 have HR:=Lib.hid hr2
 have H1:=Lib.hid h1;have H2:=Lib.hid h2;have H3:=Lib.hid h3
 have L1:=Lib.hid l1;have L2:=Lib.hid l2;have L3:=Lib.hid l3
 have K1:=Lib.hid k1.2;have K2:=Lib.hid k2.2;have K3:=Lib.hid k3.2
 clear h h1 h2 h3 k1 k2 k3 l1 l2 l3 hr hr2
 show Calls Tryz.prog 45 #[.agg #[.slice A1 n1 c1,.slice A2 n2 c2,.slice A3 n3 c3]] w _
 obtain⟨wb,hwb⟩:∃wb,w.alloc (.cells #[.slice A1 n1 c1,.slice A2 n2 c2,.slice A3 n3 c3] 50)=wb:=⟨_,rfl⟩
 have f0:Below w.heap.size w wb:=by rw[←hwb];exact (Below.refl _ _).alloc (Nat.le_refl _) _
 have kb:Blk wb w.heap.size 50 [.slice A1 n1 c1,.slice A2 n2 c2,.slice A3 n3 c3]:=by rw[←hwb];exact Blk.newAt rfl _ #[.slice A1 n1 c1,.slice A2 n2 c2,.slice A3 n3 c3]
 have e0:=kb.cell 0;have e1:=kb.cell 1;have e2:=kb.cell 2
 by_cases x1:3<n1
 ·have d1:decide ((3:Int)<(n1:Int))=true:=by simp;omega
  obtain rfl:v=false:=by rw[HR.out,decide_eq_false (show ¬n1≤3 by omega)];simp
  clear x1
  go_enter Tryz.func45,Tryz.ntmps45
  go_wp2_with fail
  go_ret
  exact⟨rfl,f0⟩
 have d1:decide ((3:Int)<(n1:Int))=false:=by simp;omega
 by_cases x2:3<n2
 ·have d2:decide ((3:Int)<(n2:Int))=true:=by simp;omega
  obtain rfl:v=false:=by rw[HR.out,decide_eq_false (show ¬n2≤3 by omega)];simp
  clear x2
  go_enter Tryz.func45,Tryz.ntmps45
  go_wp2_with fail
  go_ret
  exact⟨rfl,f0⟩
 have d2:decide ((3:Int)<(n2:Int))=false:=by simp;omega
 by_cases x3:3<n3
 ·have d3:decide ((3:Int)<(n3:Int))=true:=by simp;omega
  obtain rfl:v=false:=by rw[HR.out,decide_eq_false (show ¬n3≤3 by omega)];simp
  clear x3
  go_enter Tryz.func45,Tryz.ntmps45
  go_wp2_with fail
  go_ret
  exact⟨rfl,f0⟩
 have d3:decide ((3:Int)<(n3:Int))=false:=by simp;omega
 rw[decide_eq_true (show n1≤3 by omega),decide_eq_true (show n2≤3 by omega),decide_eq_true (show n3≤3 by omega),Bool.true_and,Bool.true_and,Bool.true_and] at HR
 go_enter Tryz.func45,Tryz.ntmps45
 go_wp2_with fail
 clear e0 e1 e2 d1 d2 d3 x1 x2 x3 hwb
 go_loopw [3] (fun i wr=>∃k:Nat,k≤n1∧i=.int .i64 k∧Below w.heap.size w wr∧Blk wr w.heap.size 50 [.slice A1 n1 c1,.slice A2 n2 c2,.slice A3 n3 c3]∧(∀j (hj:j<r.froms.length),j<k→srMay r.froms[j]=true)) (fun i _=>n1-(intOf i).toNat)
 case atStart=>exact⟨0,by omega,rfl,f0,kb,fun j hj hj2=>absurd hj2 (by omega)⟩
 case round =>
  obtain⟨k,hk,rfl,f1,kb,hall⟩:=hrel
  have HALL1:=Lib.hid hall
  clear hall
  have e0:=kb.cell 0
  by_cases hlt:k<n1
  ·have d5:decide ((k:Int)<(n1:Int))=true:=by simp;omega
   have b1:(0:Int)≤(k:Int):=by omega
   have b2:(k:Int)<(n1:Int):=by omega
   have hkL:k<r.froms.length:=by rw[L1.out];exact hlt
   obtain⟨b,off,cs,p1,p2,p3,p4,p5⟩:=(H1.out.mono f1.size f1 (fun _ _ h=>SrP.mono h f1.size f1)).at_ hlt
   have hokk:=K1.out _ (List.getElem_mem hkL)
   obtain⟨s,hs⟩:∃s,r.froms[k]'hkL=s:=⟨_,rfl⟩
   have p4':SrP wr wr.heap.size cs s:=by rw[←hs];exact p4
   rw[hs] at hokk
   have HS:=Lib.hid hs
   clear hs p4 p3
   subst p1
   have hm:=rsource_any s cs wr p4' hokk
   obtain⟨x,hx⟩:∃x,srMay s=x:=⟨_,rfl⟩
   rw[hx] at hm
   have HX:=Lib.hid hx
   clear hx
   obtain⟨B1,m1,d1,B2,m2,d2,B3,m3,d3,rfl,_,_,_⟩:=vals_sr p4'
   have q0:wr.cell? ⟨b,off+k*3,none⟩=_:=p5 0 _ rfl
   have q1:wr.cell? ⟨b,off+k*3+1,none⟩=_:=p5 1 _ rfl
   have q2:wr.cell? ⟨b,off+k*3+2,none⟩=_:=p5 2 _ rfl
   clear p5 p4'
   go_wp2_with fail
   refine hm.mono ?_
   rintro e w3 ⟨rfl,f2⟩
   replace kb:=kb.below f2 kb.lt
   replace f1:=f1.trans (f2.mono f1.size)
   clear q0 q1 q2 f2 hm e0
   cases x
   ·obtain rfl:v=false:=by rw[HR.out,all_no (f:=srMay) hkL (by rw[HS.out];exact HX.out)];rfl
    go_wp2_with fail
    go_ret
    exact⟨rfl,f1⟩
   go_wp2_with fail
   go_roundw
   case rel =>
    refine⟨k+1,by omega,by go_num,f1,kb,fun j hj hj2=>?_⟩
    by_cases hjk:j=k
    ·subst hjk;rw[HS.out];exact HX.out
    exact HALL1.out j hj (by omega)
   case measure=>simp[intOf];omega
  have d5:decide ((k:Int)<(n1:Int))=false:=by simp;omega
  have hdone:r.froms.all srMay=true:=all_yes fun j hj=>HALL1.out j hj (by rw[L1.out] at hj;omega)
  rw[hdone,Bool.true_and] at HR
  clear hdone HALL1
  go_wp2_with fail
  clear e0 d5
  go_loopw [4] (fun i wr=>∃k:Nat,k≤n2∧i=.int .i64 k∧Below w.heap.size w wr∧Blk wr w.heap.size 50 [.slice A1 n1 c1,.slice A2 n2 c2,.slice A3 n3 c3]∧(∀j (hj:j<r.tos.length),j<k→tgMay r.tos[j]=true)) (fun i _=>n2-(intOf i).toNat)
  case atStart=>exact⟨0,by omega,rfl,f1,kb,fun j hj hj2=>absurd hj2 (by omega)⟩
  case round =>
   obtain⟨k,hk,rfl,f1,kb,hall⟩:=hrel
   have HALL2:=Lib.hid hall
   clear hall
   have e1:=kb.cell 1
   by_cases hlt:k<n2
   ·have d5:decide ((k:Int)<(n2:Int))=true:=by simp;omega
    have b1:(0:Int)≤(k:Int):=by omega
    have b2:(k:Int)<(n2:Int):=by omega
    have hkL:k<r.tos.length:=by rw[L2.out];exact hlt
    obtain⟨b,off,cs,p1,p2,p3,p4,p5⟩:=(H2.out.mono f1.size f1 (fun _ _ h=>TgP.mono h f1.size f1)).at_ hlt
    have hokk:=K2.out _ (List.getElem_mem hkL)
    obtain⟨s,hs⟩:∃s,r.tos[k]'hkL=s:=⟨_,rfl⟩
    have p4':TgP wr wr.heap.size cs s:=by rw[←hs];exact p4
    rw[hs] at hokk
    have HS:=Lib.hid hs
    clear hs p4 p3
    subst p1
    have hm:=rtarget_any s cs wr p4' hokk
    obtain⟨x,hx⟩:∃x,tgMay s=x:=⟨_,rfl⟩
    rw[hx] at hm
    have HX:=Lib.hid hx
    clear hx
    obtain⟨B1,m1,d1,B2,m2,d2,B3,m3,d3,B4,m4,d4,rfl,_,_,_,_⟩:=vals_tg p4'
    have q0:wr.cell? ⟨b,off+k*4,none⟩=_:=p5 0 _ rfl
    have q1:wr.cell? ⟨b,off+k*4+1,none⟩=_:=p5 1 _ rfl
    have q2:wr.cell? ⟨b,off+k*4+2,none⟩=_:=p5 2 _ rfl
    have q3:wr.cell? ⟨b,off+k*4+3,none⟩=_:=p5 3 _ rfl
    clear p5 p4'
    go_wp2_with fail
    refine hm.mono ?_
    rintro e w3 ⟨rfl,f2⟩
    replace kb:=kb.below f2 kb.lt
    replace f1:=f1.trans (f2.mono f1.size)
    clear q0 q1 q2 q3 f2 hm e1
    cases x
    ·obtain rfl:v=false:=by rw[HR.out,all_no (f:=tgMay) hkL (by rw[HS.out];exact HX.out)];rfl
     go_wp2_with fail
     go_ret
     exact⟨rfl,f1⟩
    go_wp2_with fail
    go_roundw
    case rel =>
     refine⟨k+1,by omega,by go_num,f1,kb,fun j hj hj2=>?_⟩
     by_cases hjk:j=k
     ·subst hjk;rw[HS.out];exact HX.out
     exact HALL2.out j hj (by omega)
    case measure=>simp[intOf];omega
   have d5:decide ((k:Int)<(n2:Int))=false:=by simp;omega
   have hdone:r.tos.all tgMay=true:=all_yes fun j hj=>HALL2.out j hj (by rw[L2.out] at hj;omega)
   rw[hdone,Bool.true_and] at HR
   clear hdone HALL2
   go_wp2_with fail
   clear e1 d5
   go_loopw [5] (fun i wr=>∃k:Nat,k≤n3∧i=.int .i64 k∧Below w.heap.size w wr∧Blk wr w.heap.size 50 [.slice A1 n1 c1,.slice A2 n2 c2,.slice A3 n3 c3]∧(∀j (hj:j<r.whens.length),j<k→wnMay r.whens[j]=true)) (fun i _=>n3-(intOf i).toNat)
   case atStart=>exact⟨0,by omega,rfl,f1,kb,fun j hj hj2=>absurd hj2 (by omega)⟩
   case round =>
    obtain⟨k,hk,rfl,f1,kb,hall⟩:=hrel
    have HALL3:=Lib.hid hall
    clear hall
    have e2:=kb.cell 2
    by_cases hlt:k<n3
    ·have d5:decide ((k:Int)<(n3:Int))=true:=by simp;omega
     have b1:(0:Int)≤(k:Int):=by omega
     have b2:(k:Int)<(n3:Int):=by omega
     have hkL:k<r.whens.length:=by rw[L3.out];exact hlt
     obtain⟨b,off,cs,p1,p2,p3,p4,p5⟩:=(H3.out.mono f1.size f1 (fun _ _ h=>WnP.mono h f1.size f1)).at_ hlt
     have hokk:=K3.out _ (List.getElem_mem hkL)
     obtain⟨s,hs⟩:∃s,r.whens[k]'hkL=s:=⟨_,rfl⟩
     have p4':WnP wr wr.heap.size cs s:=by rw[←hs];exact p4
     rw[hs] at hokk
     have HS:=Lib.hid hs
     clear hs p4 p3
     subst p1
     obtain⟨B,m,d,rfl,g1⟩:=vals_wn p4'
     have gl:=g1.1
     have q0:wr.cell? ⟨b,off+k*2,none⟩=some (.string (strB s.head)):=p5 0 _ rfl
     have q1:wr.cell? ⟨b,off+k*2+1,none⟩=some (.slice B m d):=p5 1 _ rfl
     clear p5 p4'
     have hmm:m≤1000000:=by rw[←gl];exact hokk.2.1
     have hm:=rhName_any s.head wr (Nat.le_trans hokk.1 (by omega))
     have hw:wnMay s=(hdMay s.head&&(allMay s.terms&&decide (0<m))):=by
      rw[←gl]
      unfold wnMay rowsMay
      simp only[List.all_cons,List.all_nil,Bool.and_true]
     obtain⟨x,hx⟩:∃x,hdMay s.head=x:=⟨_,rfl⟩
     rw[hx] at hm hw
     clear hx
     generalize strB s.head=sh at *
     have HW:=Lib.hid hw;clear hw
     have G1:=Lib.hid g1;clear g1 gl
     go_wp2_with fail
     refine hm.mono ?_
     rintro e w3 ⟨rfl,f2⟩
     replace kb:=kb.below f2 kb.lt
     replace q1:=(f2.cell (World.block_lt_of_cell? wr _ q1)).trans q1
     have g3:=(G1.out.below f2).more f2.size
     replace f1:=f1.trans (f2.mono f1.size)
     clear q0 f2 hm e2
     have e2:=kb.cell 2
     cases x
     ·have HX:=HW
      rw[Bool.false_and] at HX
      obtain rfl:v=false:=by rw[HR.out,all_no (f:=wnMay) hkL (by rw[HS.out];exact HX.out)]
      go_wp2_with fail
      go_ret
      exact⟨rfl,f1⟩
     by_cases hz:m=0
     ·have d7:((m:Int)==0)=true:=by simp;omega
      have HX:=Lib.hid (show wnMay s=false by rw[HW.out,decide_eq_false (show ¬0<m by omega)];simp)
      clear hz
      obtain rfl:v=false:=by rw[HR.out,all_no (f:=wnMay) hkL (by rw[HS.out];exact HX.out)]
      go_wp2_with fail
      go_ret
      exact⟨rfl,f1⟩
     have d7:((m:Int)==0)=false:=by simp;omega
     have hm:=rtMayAll_any B m d s.terms w3 g3 (by omega) hokk.2.len
     obtain⟨y,hy⟩:∃y,allMay s.terms=y:=⟨_,rfl⟩
     rw[hy] at hm
     have HX:=Lib.hid (show wnMay s=y by rw[HW.out,hy,decide_eq_true (show 0<m by omega)];simp)
     clear hy
     go_wp2_with fail
     refine hm.mono ?_
     rintro e w4 ⟨rfl,f2⟩
     replace kb:=kb.below f2 kb.lt
     replace f1:=f1.trans (f2.mono f1.size)
     clear q1 f2 hm e2 g3
     cases y
     ·obtain rfl:v=false:=by rw[HR.out,all_no (f:=wnMay) hkL (by rw[HS.out];exact HX.out)]
      go_wp2_with fail
      go_ret
      exact⟨rfl,f1⟩
     go_wp2_with fail
     go_roundw
     case rel =>
      refine⟨k+1,by omega,by go_num,f1,kb,fun j hj hj2=>?_⟩
      by_cases hjk:j=k
      ·subst hjk;rw[HS.out];exact HX.out
      exact HALL3.out j hj (by omega)
     case measure=>simp[intOf];omega
    have d5:decide ((k:Int)<(n3:Int))=false:=by simp;omega
    have hdone:r.whens.all wnMay=true:=all_yes fun j hj=>HALL3.out j hj (by rw[L3.out] at hj;omega)
    obtain rfl:v=true:=by rw[HR.out,hdone]
    go_wp2_with fail
    go_ret
    exact⟨rfl,f1⟩
open Go.RowKit
theorem labB_short{l:List UInt8}(h:l.length<1):labB l=false:=by
 unfold labB
 have e:decide (1≤l.length)=false:=decide_eq_false (by omega)
 rw[e,Bool.and_false,Bool.false_and]
theorem labB_long{l:List UInt8}(h:20<l.length):labB l=false:=by
 unfold labB
 have e:decide (l.length≤20)=false:=decide_eq_false (by omega)
 rw[e,Bool.and_false]
set_option maxRecDepth 100000 in
set_option maxHeartbeats 2000000 in
theorem refLabel_any(l:List UInt8)(hl:l.length≤9223372036854775807)(w:World) :
  Calls Tryz.prog 44 #[.string (strB l)] w fun e w'=>e=.returned (.bool (labB l))∧w'=w:=by
 have hsz:=strB_size l
 generalize hs:strB l=s at *
 have hat:∀k (h:k<s.size),(s[k]'h).toNat=(at8 l k).toNat:=by subst hs;exact strB_at l
 have Hs:=Lib.hid hs
 have Hat:=Lib.hid hat
 clear hs hat
 generalize hn:l.length=n at *
 have Hn:=Lib.hid hn
 clear hn
 go_enter Tryz.func44,Tryz.ntmps44
 by_cases h1:n<1
 ·have d1:decide ((n:Int)<1)=true:=by simp;omega
  have hno:=Lib.hid (labB_short (l:=l) (by rw[Hn.out];exact h1))
  go_wp2_with fail
  go_ret
  exact⟨by rw[hno.out];first|rfl|skip,rfl⟩
 have d1:decide ((n:Int)<1)=false:=by simp;omega
 by_cases h2:20<n
 ·have d2:decide ((20:Int)<(n:Int))=true:=by simp;omega
  have hno:=Lib.hid (labB_long (l:=l) (by rw[Hn.out];exact h2))
  go_wp2_with fail
  go_ret
  exact⟨by rw[hno.out];first|rfl|skip,rfl⟩
 have d2:decide ((20:Int)<(n:Int))=false:=by simp;omega
 have p1:(0:Int)<(n:Int):=by omega
 have p2:(0:Int)≤(n:Int)-1:=by omega
 have q0:(s[0]'(by omega)).toNat=(at8 l 0).toNat:=Hat.out 0 (by omega)
 have qn:(s[n-1]'(by omega)).toNat=(at8 l (n-1)).toNat:=Hat.out (n-1) (by omega)
 generalize hC0:(at8 l 0).toNat=C0 at *
 generalize hCn:(at8 l (n-1)).toNat=Cn at *
 have HC0:=Lib.hid hC0
 have HCn:=Lib.hid hCn
 clear hC0 hCn
 by_cases h3:C0=45
 ·have d3:((C0:Int)==45)=true:=by simp;omega
  have hno:=Lib.hid (labB_no (l:=l) (i:=0) (by rw[Hn.out];omega) (by rw[HC0.out,Hn.out];exact okB_false (by omega)))
  have H3:=Lib.hid h3
  clear h3
  go_wp2_with fail
  go_ret
  exact⟨by rw[hno.out];first|rfl|skip,rfl⟩
 have d3:((C0:Int)==45)=false:=by simp;omega
 by_cases h4:Cn=45
 ·have d4:((Cn:Int)==45)=true:=by simp;omega
  have hno:=Lib.hid (labB_no (l:=l) (i:=n-1) (by rw[Hn.out];omega) (by rw[HCn.out,Hn.out];exact okB_false (by omega)))
  have H4:=Lib.hid h4
  clear h4
  go_wp2_with fail
  go_ret
  exact⟨by rw[hno.out];first|rfl|skip,rfl⟩
 have d4:((Cn:Int)==45)=false:=by simp;omega
 go_wp2_with fail
 clear q0 qn d3 d4
 go_loopw [3,4] (fun i _ wr=>∃k:Nat,k≤n∧i=.int .i64 k∧wr=w∧(∀j,j<k→(97≤(at8 l j).toNat∧(at8 l j).toNat≤122)∨(48≤(at8 l j).toNat∧(at8 l j).toNat≤57)∨(at8 l j).toNat=45)) (fun i _ _=>n-(intOf i).toNat)
 case atStart=>exact⟨0,by omega,rfl,rfl,fun j hj=>absurd hj (by omega)⟩
 case round =>
  obtain⟨k,hk,rfl,rfl,hok⟩:=hrel
  have Hok:=Lib.hid hok
  clear hok
  by_cases hlt:k<n
  ·have d5:decide ((k:Int)<(n:Int))=true:=by simp;omega
   have b1:(0:Int)≤(k:Int):=by omega
   have b2:(k:Int)<(n:Int):=by omega
   have qk:(s[k]'(by omega)).toNat=(at8 l k).toNat:=Hat.out k (by omega)
   generalize hC:(at8 l k).toNat=C at *
   have HC:=Lib.hid hC
   clear hC
   by_cases h5:C=45
   ·have d6:((C:Int) !=45)=false:=by simp;omega
    have H5:=Lib.hid h5
    clear h5
    go_wp2_with fail
    go_roundw
    case rel =>
     refine⟨k+1,by omega,by go_num,by trivial,fun j hj=>?_⟩
     by_cases hjk:j=k
     ·subst hjk;rw[HC.out];have:=H5.out;omega
     exact Hok.out j (by omega)
    case measure=>simp[intOf];omega
   have d6:((C:Int) !=45)=true:=by simp;omega
   by_cases h6:C<48
   ·have d7:decide ((C:Int)<48)=true:=by simp;omega
    have d8:decide ((C:Int)<97)=true:=by simp;omega
    have hno:=Lib.hid (labB_no (l:=l) (i:=k) (by rw[Hn.out];omega) (by rw[HC.out,Hn.out];exact okB_false (by omega)))
    go_wp2_with fail
    go_ret
    exact⟨by rw[hno.out];first|rfl|skip,rfl⟩
   have d7:decide ((C:Int)<48)=false:=by simp;omega
   by_cases h7:C≤57
   ·have d8:decide ((57:Int)<(C:Int))=false:=by simp;omega
    go_wp2_with fail
    go_roundw
    case rel =>
     refine⟨k+1,by omega,by go_num,by trivial,fun j hj=>?_⟩
     by_cases hjk:j=k
     ·subst hjk;rw[HC.out];omega
     exact Hok.out j (by omega)
    case measure=>simp[intOf];omega
   have d8:decide ((57:Int)<(C:Int))=true:=by simp;omega
   by_cases h8:C<97
   ·have d9:decide ((C:Int)<97)=true:=by simp;omega
    have hno:=Lib.hid (labB_no (l:=l) (i:=k) (by rw[Hn.out];omega) (by rw[HC.out,Hn.out];exact okB_false (by omega)))
    go_wp2_with fail
    go_ret
    exact⟨by rw[hno.out];first|rfl|skip,rfl⟩
   have d9:decide ((C:Int)<97)=false:=by simp;omega
   by_cases h9:C≤122
   ·have d10:decide ((122:Int)<(C:Int))=false:=by simp;omega
    go_wp2_with fail
    go_roundw
    case rel =>
     refine⟨k+1,by omega,by go_num,by trivial,fun j hj=>?_⟩
     by_cases hjk:j=k
     ·subst hjk;rw[HC.out];omega
     exact Hok.out j (by omega)
    case measure=>simp[intOf];omega
   have d10:decide ((122:Int)<(C:Int))=true:=by simp;omega
   have hno:=Lib.hid (labB_no (l:=l) (i:=k) (by rw[Hn.out];omega) (by rw[HC.out,Hn.out];exact okB_false (by omega)))
   go_wp2_with fail
   go_ret
   exact⟨by rw[hno.out];first|rfl|skip,rfl⟩
  have d5:decide ((k:Int)<(n:Int))=false:=by simp;omega
  have hyes:labB l=true:=by
   rw[labB_of (l:=l) (fun i hi=>?_),Hn.out]
   ·simp;omega
   have h:=Hok.out i (by rw[Hn.out] at hi;omega)
   rw[Hn.out] at hi ⊢
   refine okB_true ?_
   rcases h with h|h|h
   ·exact .inl h
   ·exact .inr (.inl h)
   refine .inr (.inr ⟨h,?_,?_⟩)
   ·rintro rfl
    exact h3 (by rw[←HC0.out];exact h)
   intro he
   refine h4 ?_
   rw[←HCn.out,show n-1=i from by omega]
   exact h
  have Hyes:=Lib.hid hyes
  clear hyes
  go_wp2_with fail
  go_ret
  exact⟨by rw[Hyes.out];first|rfl|skip,rfl⟩
set_option maxRecDepth 100000 in
set_option maxHeartbeats 4000000 in
theorem rmay12_any(p:Po)(cs:List Value)(w:World)(h:PoP w w.heap.size cs p)(hok:okPo p) :
  Calls Tryz.prog 20 #[.agg cs.toArray] w fun e w'=>e=.returned (.bool (poMay p))∧Below w.heap.size w w':=by
 obtain⟨v,rfl,A,n,c,rfl,_,_,h1⟩:=h
 obtain⟨id,ns,sv,dn,rules⟩:=p
 obtain⟨k1,k2,k3,k4,k5,k6⟩:=hok
 simp only at k1 k2 k3 k4 k5 k6 h1 ⊢
 have l1:=h1.1
 have hn:n≤1000000:=by rw[←l1];exact k5
 obtain⟨b3,x3⟩:∃b,ns.isEmpty=b:=⟨_,rfl⟩
 obtain⟨b4,x4⟩:∃b,labB ns=b:=⟨_,rfl⟩
 obtain⟨v,hr⟩:∃v,poMay ⟨id,ns,sv,dn,rules⟩=v:=⟨_,rfl⟩
 rw[hr]
 have hr2:v=(decide (1≤id)&&(decide (id≤4611686018427387903)&&((b3||b4)&&(decide (sv≤4611686018427387903)&&((decide (dn=0)||decide (dn=1))&&(decide (n≤6)&&rules.all ruMay)))))):=by
  rw[←hr,←x3,←x4,←l1]
  rfl
 have HR:=Lib.hid hr2
 have H1:=Lib.hid h1;have L1:=Lib.hid l1;have K6:=Lib.hid k6
 have hlab:=fun w=>refLabel_any ns (by unfold okS at k2;omega) w
 rw[x4] at hlab
 have y3:(strB ns).toList.isEmpty=b3:=by rw[strB_toList];exact x3
 have y4:((strB ns).toList==[])=b3:=by rw[←y3];cases (strB ns).toList<;>rfl
 clear h1 l1 hr hr2 k2 k5 k6 x3 x4
 show Calls Tryz.prog 20 #[.agg #[.int .u64 (id:Int),.string (strB ns),.int .u64 (sv:Int),.int .i64 dn,.slice A n c]] w _
 generalize strB ns=s at *
 obtain⟨wb,hwb⟩:∃wb,w.alloc (.cells #[.int .u64 (id:Int),.string (s),.int .u64 (sv:Int),.int .i64 dn,.slice A n c] 39)=wb:=⟨_,rfl⟩
 have f0:Below w.heap.size w wb:=by rw[←hwb];exact (Below.refl _ _).alloc (Nat.le_refl _) _
 have kb:Blk wb w.heap.size 39 [.int .u64 (id:Int),.string (s),.int .u64 (sv:Int),.int .i64 dn,.slice A n c]:=by rw[←hwb];exact Blk.newAt rfl _ #[.int .u64 (id:Int),.string (s),.int .u64 (sv:Int),.int .i64 dn,.slice A n c]
 have e0:=kb.cell 0;have e1:=kb.cell 1;have e2:=kb.cell 2;have e3:=kb.cell 3;have e4:=kb.cell 4
 go_enter Tryz.func20,Tryz.ntmps20
 by_cases c0:id<1
 ·have d0:decide ((id:Int)<1)=true:=by simp;omega
  obtain rfl:v=false:=by rw[HR.out,decide_eq_false (show ¬1≤id by omega)];simp[]
  clear c0
  go_wp2_with fail
  go_ret
  exact⟨rfl,f0⟩
 have d0:decide ((id:Int)<1)=false:=by simp;omega
 by_cases c1:4611686018427387903<id
 ·have d1:decide ((4611686018427387903:Int)<(id:Int))=true:=by simp;omega
  obtain rfl:v=false:=by rw[HR.out,decide_eq_false (show ¬id≤4611686018427387903 by omega)];simp[]
  clear c1
  go_wp2_with fail
  go_ret
  exact⟨rfl,f0⟩
 have d1:decide ((4611686018427387903:Int)<(id:Int))=false:=by simp;omega
 cases b3
 ·cases b4
  ·obtain rfl:v=false:=by rw[HR.out];simp
   go_wp2_with fail
   refine (hlab _).mono ?_
   rintro e w2 ⟨rfl,rfl⟩
   go_wp2_with fail
   go_ret
   exact⟨rfl,f0⟩
  go_wp2_with fail
  refine (hlab _).mono ?_
  rintro e w2 ⟨rfl,rfl⟩
  by_cases c2:4611686018427387903<sv
  ·have d2:decide ((4611686018427387903:Int)<(sv:Int))=true:=by simp;omega
   obtain rfl:v=false:=by rw[HR.out,decide_eq_false (show ¬sv≤4611686018427387903 by omega)];simp[]
   clear c2
   go_wp2_with fail
   go_ret
   exact⟨rfl,f0⟩
  have d2:decide ((4611686018427387903:Int)<(sv:Int))=false:=by simp;omega
  by_cases c3:dn<0
  ·have d3:decide (dn<0)=true:=by simp;omega
   obtain rfl:v=false:=by rw[HR.out,decide_eq_false (show ¬dn=0 by omega),decide_eq_false (show ¬dn=1 by omega)];simp[]
   clear c3
   go_wp2_with fail
   go_ret
   exact⟨rfl,f0⟩
  have d3:decide (dn<0)=false:=by simp;omega
  by_cases c4:1<dn
  ·have d4:decide (1<dn)=true:=by simp;omega
   obtain rfl:v=false:=by rw[HR.out,decide_eq_false (show ¬dn=0 by omega),decide_eq_false (show ¬dn=1 by omega)];simp[]
   clear c4
   go_wp2_with fail
   go_ret
   exact⟨rfl,f0⟩
  have d4:decide (1<dn)=false:=by simp;omega
  by_cases c5:6<n
  ·have d5:decide ((6:Int)<(n:Int))=true:=by simp;omega
   obtain rfl:v=false:=by rw[HR.out,decide_eq_false (show ¬n≤6 by omega)];simp[]
   clear c5
   go_wp2_with fail
   go_ret
   exact⟨rfl,f0⟩
  have d5:decide ((6:Int)<(n:Int))=false:=by simp;omega
  have HA:v=rules.all ruMay:=by
   rw[HR.out,decide_eq_true (show 1≤id by omega),decide_eq_true (show id≤4611686018427387903 by omega),decide_eq_true (show sv≤4611686018427387903 by omega),decide_eq_true (show n≤6 by omega),show (decide (dn=0)||decide (dn=1))=true from by simp;omega]
   simp
  have HV:=Lib.hid HA;clear HA
  go_wp2_with fail
  clear e0 e1 e2 e3 e4 d0 d1 d2 d3 d4 d5 hwb hlab
  go_loopw [3] (fun i wr=>∃k:Nat,k≤n∧i=.int .i64 k∧Below w.heap.size w wr∧Blk wr w.heap.size 39 [.int .u64 (id:Int),.string (s),.int .u64 (sv:Int),.int .i64 dn,.slice A n c]∧(∀j (hj:j<rules.length),j<k→ruMay rules[j]=true)) (fun i _=>n-(intOf i).toNat)
  case atStart=>exact⟨0,by omega,rfl,f0,kb,fun j hj hj2=>absurd hj2 (by omega)⟩
  case round =>
   obtain⟨k,hk,rfl,f1,kb,hall⟩:=hrel
   have HALL:=Lib.hid hall
   clear hall
   have e4:=kb.cell 4
   by_cases hlt:k<n
   ·have d5:decide ((k:Int)<(n:Int))=true:=by simp;omega
    have b1:(0:Int)≤(k:Int):=by omega
    have b2:(k:Int)<(n:Int):=by omega
    have hkL:k<rules.length:=by rw[L1.out];exact hlt
    obtain⟨b,off,cs,p1,p2,p3,p4,p5⟩:=(H1.out.mono f1.size f1 (fun _ _ h=>RuP.mono h f1.size f1)).at_ hlt
    have hokk:=K6.out _ (List.getElem_mem hkL)
    obtain⟨r,hs⟩:∃r,rules[k]'hkL=r:=⟨_,rfl⟩
    have p4':RuP wr wr.heap.size cs r:=by rw[←hs];exact p4
    rw[hs] at hokk
    have HS:=Lib.hid hs
    clear hs p4 p3
    subst p1
    have hm:=rmayRule_any r cs wr p4' hokk
    obtain⟨x,hx⟩:∃x,ruMay r=x:=⟨_,rfl⟩
    rw[hx] at hm
    have HX:=Lib.hid hx
    clear hx
    obtain⟨B1,m1,g1,B2,m2,g2,B3,m3,g3,rfl,_,_,_⟩:=vals_ru p4'
    have q0:wr.cell? ⟨b,off+k*3,none⟩=_:=p5 0 _ rfl
    have q1:wr.cell? ⟨b,off+k*3+1,none⟩=_:=p5 1 _ rfl
    have q2:wr.cell? ⟨b,off+k*3+2,none⟩=_:=p5 2 _ rfl
    clear p5 p4'
    go_wp2_with fail
    refine hm.mono ?_
    rintro e w3 ⟨rfl,f2⟩
    replace kb:=kb.below f2 kb.lt
    replace f1:=f1.trans (f2.mono f1.size)
    clear q0 q1 q2 f2 hm e4
    cases x
    ·obtain rfl:v=false:=by rw[HV.out,all_no (f:=ruMay) hkL (by rw[HS.out];exact HX.out)]
     go_wp2_with fail
     go_ret
     exact⟨rfl,f1⟩
    go_wp2_with fail
    go_roundw
    case rel =>
     refine⟨k+1,by omega,by go_num,f1,kb,fun j hj hj2=>?_⟩
     by_cases hjk:j=k
     ·subst hjk;rw[HS.out];exact HX.out
     exact HALL.out j hj (by omega)
    case measure=>simp[intOf];omega
   have d5:decide ((k:Int)<(n:Int))=false:=by simp;omega
   obtain rfl:v=true:=by rw[HV.out];exact all_yes fun j hj=>HALL.out j hj (by rw[L1.out] at hj;omega)
   go_wp2_with fail
   go_ret
   exact⟨rfl,f1⟩
 by_cases c2:4611686018427387903<sv
 ·have d2:decide ((4611686018427387903:Int)<(sv:Int))=true:=by simp;omega
  obtain rfl:v=false:=by rw[HR.out,decide_eq_false (show ¬sv≤4611686018427387903 by omega)];simp[]
  clear c2
  go_wp2_with fail
  go_ret
  exact⟨rfl,f0⟩
 have d2:decide ((4611686018427387903:Int)<(sv:Int))=false:=by simp;omega
 by_cases c3:dn<0
 ·have d3:decide (dn<0)=true:=by simp;omega
  obtain rfl:v=false:=by rw[HR.out,decide_eq_false (show ¬dn=0 by omega),decide_eq_false (show ¬dn=1 by omega)];simp[]
  clear c3
  go_wp2_with fail
  go_ret
  exact⟨rfl,f0⟩
 have d3:decide (dn<0)=false:=by simp;omega
 by_cases c4:1<dn
 ·have d4:decide (1<dn)=true:=by simp;omega
  obtain rfl:v=false:=by rw[HR.out,decide_eq_false (show ¬dn=0 by omega),decide_eq_false (show ¬dn=1 by omega)];simp[]
  clear c4
  go_wp2_with fail
  go_ret
  exact⟨rfl,f0⟩
 have d4:decide (1<dn)=false:=by simp;omega
 by_cases c5:6<n
 ·have d5:decide ((6:Int)<(n:Int))=true:=by simp;omega
  obtain rfl:v=false:=by rw[HR.out,decide_eq_false (show ¬n≤6 by omega)];simp[]
  clear c5
  go_wp2_with fail
  go_ret
  exact⟨rfl,f0⟩
 have d5:decide ((6:Int)<(n:Int))=false:=by simp;omega
 have HA:v=rules.all ruMay:=by
  rw[HR.out,decide_eq_true (show 1≤id by omega),decide_eq_true (show id≤4611686018427387903 by omega),decide_eq_true (show sv≤4611686018427387903 by omega),decide_eq_true (show n≤6 by omega),show (decide (dn=0)||decide (dn=1))=true from by simp;omega]
  simp
 have HV:=Lib.hid HA;clear HA
 go_wp2_with fail
 clear e0 e1 e2 e3 e4 d0 d1 d2 d3 d4 d5 hwb hlab
 go_loopw [3] (fun i wr=>∃k:Nat,k≤n∧i=.int .i64 k∧Below w.heap.size w wr∧Blk wr w.heap.size 39 [.int .u64 (id:Int),.string (s),.int .u64 (sv:Int),.int .i64 dn,.slice A n c]∧(∀j (hj:j<rules.length),j<k→ruMay rules[j]=true)) (fun i _=>n-(intOf i).toNat)
 case atStart=>exact⟨0,by omega,rfl,f0,kb,fun j hj hj2=>absurd hj2 (by omega)⟩
 case round =>
  obtain⟨k,hk,rfl,f1,kb,hall⟩:=hrel
  have HALL:=Lib.hid hall
  clear hall
  have e4:=kb.cell 4
  by_cases hlt:k<n
  ·have d5:decide ((k:Int)<(n:Int))=true:=by simp;omega
   have b1:(0:Int)≤(k:Int):=by omega
   have b2:(k:Int)<(n:Int):=by omega
   have hkL:k<rules.length:=by rw[L1.out];exact hlt
   obtain⟨b,off,cs,p1,p2,p3,p4,p5⟩:=(H1.out.mono f1.size f1 (fun _ _ h=>RuP.mono h f1.size f1)).at_ hlt
   have hokk:=K6.out _ (List.getElem_mem hkL)
   obtain⟨r,hs⟩:∃r,rules[k]'hkL=r:=⟨_,rfl⟩
   have p4':RuP wr wr.heap.size cs r:=by rw[←hs];exact p4
   rw[hs] at hokk
   have HS:=Lib.hid hs
   clear hs p4 p3
   subst p1
   have hm:=rmayRule_any r cs wr p4' hokk
   obtain⟨x,hx⟩:∃x,ruMay r=x:=⟨_,rfl⟩
   rw[hx] at hm
   have HX:=Lib.hid hx
   clear hx
   obtain⟨B1,m1,g1,B2,m2,g2,B3,m3,g3,rfl,_,_,_⟩:=vals_ru p4'
   have q0:wr.cell? ⟨b,off+k*3,none⟩=_:=p5 0 _ rfl
   have q1:wr.cell? ⟨b,off+k*3+1,none⟩=_:=p5 1 _ rfl
   have q2:wr.cell? ⟨b,off+k*3+2,none⟩=_:=p5 2 _ rfl
   clear p5 p4'
   go_wp2_with fail
   refine hm.mono ?_
   rintro e w3 ⟨rfl,f2⟩
   replace kb:=kb.below f2 kb.lt
   replace f1:=f1.trans (f2.mono f1.size)
   clear q0 q1 q2 f2 hm e4
   cases x
   ·obtain rfl:v=false:=by rw[HV.out,all_no (f:=ruMay) hkL (by rw[HS.out];exact HX.out)]
    go_wp2_with fail
    go_ret
    exact⟨rfl,f1⟩
   go_wp2_with fail
   go_roundw
   case rel =>
    refine⟨k+1,by omega,by go_num,f1,kb,fun j hj hj2=>?_⟩
    by_cases hjk:j=k
    ·subst hjk;rw[HS.out];exact HX.out
    exact HALL.out j hj (by omega)
   case measure=>simp[intOf];omega
  have d5:decide ((k:Int)<(n:Int))=false:=by simp;omega
  obtain rfl:v=true:=by rw[HV.out];exact all_yes fun j hj=>HALL.out j hj (by rw[L1.out] at hj;omega)
  go_wp2_with fail
  go_ret
  exact⟨rfl,f1⟩
end Go.Proofs.YtpcdmbajfmnoiaaGreatDoor
