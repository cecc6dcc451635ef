/- The document's numbers, terms and lists as text: gatepostref15.Digits, gatepostref07.Print, gatepostref15.terms. Conditions: sizes. The document's Cut and number (layer 15). Conditions: texts of a million bytes at most. The document's way to read a line of a policy, and the program's: one. Plain, no condition. The document's terms out of texts: gatepostref07.Parse, gatepostref15.termsOf. Conditions: texts of a million bytes at most. Printed by gen_rstm.py. The document's pairs of a line: gatepostref15.row. Conditions: sizes. Printed by gen_rsrow.py. The document's first line of a policy: gatepostref15.policy. Conditions: sizes. Printed by gen_rspol.py. The document's source of a line: gatepostref15.source. Conditions: sizes. Printed by gen_rssrc.py. The document's target of a line: gatepostref15.target. Conditions: sizes. Printed by gen_rstgt.py. -/
import Derived.Test.YtpcdmbajfmnoiaaGreatDoorSynPrAll
import Derived.Test.YtpcdmbajfmnoiaaGreatDoorSynParseAll
import Derived.IntWalk
import Derived.Test.YtpcdmbajfmnoiaaGreatDoorAddrRfAll
import Derived.Test.YtpcdmbajfmnoiaaGreatDoorRefPoA
import Derived.Test.YtpcdmbajfmnoiaaGreatDoorTxAll
import Derived.Test.YtpcdmbajfmnoiaaGreatDoorSynPartAll
import Derived.Deep.DeepCutAuto
namespace Go.Proofs.YtpcdmbajfmnoiaaGreatDoor
set_option linter.unusedVariables false
set_option linter.unusedSimpArgs false
open Go.RowKit Go.Sort
theorem TBr:ByteTy Tryz.prog 123 5:=⟨Tryz.underlying123,Tryz.underlying5,by kernel_rfl⟩
theorem one_bvr(w:World)(b:UInt8):RdB (w.alloc (.cells #[bv b] 5)) (w.alloc (.cells #[bv b] 5)).heap.size (some ⟨w.heap.size,0,none⟩) 1 [b]:=by
 have k:=Blk.of_new w 5 (bvs [b])
 exact k.rdB rfl
theorem bv_dig(r:Nat)(h:r<10):(Value.int .u8 (48+(r:Int)))=bv (UInt8.ofNat (48+r)):=by
 unfold bv
 congr 1
 rw[UInt8.toNat_ofNat']
 omega
theorem dec_snoc(n:Nat)(h:¬n<10):Lib.decDigits n=Lib.decDigits (n/10)++[UInt8.ofNat (48+n%10)]:=by rw[Lib.decDigits,dif_neg h]
set_option maxRecDepth 100000 in
set_option maxHeartbeats 4000000 in
theorem rDig_any(n:Nat)(w:World)(hn:n<18446744073709551616):Calls Tryz.prog 46 #[.int .u64 (n:Int)] w fun e w'=>e=.returned (.string (strB (Lib.decDigits n)))∧Below w.heap.size w w':=by
 have hl:=dec_len20 hn
 go_enter Tryz.func46,Tryz.ntmps46
 go_wp2_with fail
 go_loopw [0,3] (fun v0 v3 wr=>∃(m:Nat)(s:List UInt8),v0=.int .u64 (m:Int)∧m<18446744073709551616∧v3=.string (strB s)∧Lib.decDigits n=Lib.decDigits m++s∧Below w.heap.size w wr) (fun v0 _ _=>(intOf v0).toNat)
 case atStart=>exact⟨n,[],rfl,hn,rfl,by rw[List.append_nil],Below.refl _ _⟩
 case round =>
  obtain⟨m,s,rfl,hm,rfl,hd,f1⟩:=hrel
  have hr:=Nat.mod_lt m (show 0<10 by omega)
  have BV:=bv_dig (m%10) hr
  have E1:(m:Int)%10=((m%10:Nat):Int):=by omega
  have E2:(m:Int).tmod 10=((m%10:Nat):Int):=by rw[Int.tmod_eq_emod_of_nonneg (by omega)];omega
  have E3:(m:Int)/10=((m/10:Nat):Int):=by omega
  have E4:(m:Int).tdiv 10=((m/10:Nat):Int):=by rw[Int.tdiv_eq_ediv_of_nonneg (by omega)];omega
  have hs1:s.length≤20:=by rw[hd,List.length_append] at hl;omega
  have zs:(strB s).size≤20:=by rw[strB_size];exact hs1
  have hq:strB [UInt8.ofNat (48+m%10)]++strB s=strB (UInt8.ofNat (48+m%10)::s):=by rw[strB_app];rfl
  have z1:(strB [UInt8.ofNat (48+m%10)]).size=1:=strB_size _
  have one:=one_bvr wr (UInt8.ofNat (48+m%10))
  have hr1:=run_str TBr one 1 9 Tryz.underlying9
  have hnext:¬m<10→Lib.decDigits n=Lib.decDigits (m/10)++(UInt8.ofNat (48+m%10)::s):=fun h=>by rw[hd,dec_snoc m h,List.append_assoc];rfl
  have hlast:m<10→Lib.decDigits n=UInt8.ofNat (48+m%10)::s:=fun h=>by rw[hd,Lib.decDigits_one h,Nat.mod_eq_of_lt h];rfl
  have hm10:m/10<18446744073709551616:=by omega
  have hq10:(m/10=0)↔m<10:=by omega
  have hmeas:¬m<10→m/10<m:=by omega
  have HL:=Lib.hid hlast;have HN:=Lib.hid hnext
  clear hd hlast hnext
  generalize UInt8.ofNat (48+m%10)=y at *
  rw[←BV] at hr1
  clear one BV
  obtain⟨t,ht⟩:∃t,strB (y::s)=t:=⟨_,rfl⟩
  have HTT:=Lib.hid ht
  rw[ht] at hq
  clear ht
  obtain⟨r,hrr⟩:∃r,m%10=r:=⟨_,rfl⟩
  obtain⟨q,hqq⟩:∃q,m/10=q:=⟨_,rfl⟩
  rw[hrr] at hr E1 E2 hr1
  rw[hqq] at E3 E4 HN hm10 hq10 hmeas
  clear hrr hqq
  have r0:(0:Int)≤(r:Int):=by omega
  have r1:(r:Int)≤9:=by omega
  have q0:(0:Int)≤(q:Int):=by omega
  have w8:IntKind.u8.wrap (48+(r:Int))=48+(r:Int):=IntWalk.u8_in _ (by omega)
  have w64:IntKind.u64.wrap (48+(r:Int))=48+(r:Int):=IntWalk.u64_in _ (by omega)
  have wr64:IntKind.u64.wrap (r:Int)=(r:Int):=IntWalk.u64_in _ (by omega)
  have wq64:IntKind.u64.wrap (q:Int)=(q:Int):=IntWalk.u64_in _ (by omega)
  have zz:¬9223372036854775807<1+(strB s).size:=by omega
  have zz2:¬9223372036854775807<(strB [y]).size+(strB s).size:=by omega
  generalize strB s=S at *
  by_cases h10:m<10
  ·have d0:((q:Int)==0)=true:=by rw[beq_iff_eq];have:=hq10.2 h10;omega
   have d1:q=0:=hq10.2 h10
   clear hq10 hmeas HN
   go_wp2_with fail
   go_ret
   refine⟨?_,f1.trans (((Below.refl _ wr).alloc (Nat.le_refl _) _).mono f1.size)⟩
   rw[HL.out h10,HTT.out]
   first|rfl|(rw[←hq];rfl)
  have d0:((q:Int)==0)=false:=by rw[beq_eq_false_iff_ne];intro e;exact h10 (hq10.1 (by omega))
  have d1:¬q=0:=fun e=>h10 (hq10.1 e)
  have hms:=hmeas h10
  have hnx:=HN.out h10
  have HNX:=Lib.hid hnx
  clear hq10 hmeas HL hnx
  go_wp2_with fail
  go_roundw
  case rel=>exact⟨q,y::s,by go_num,hm10,(by first|(rw[HTT.out];done)|(rw[HTT.out,←hq];rfl)),HNX.out,f1.trans (((Below.refl _ wr).alloc (Nat.le_refl _) _).mono f1.size)⟩
  case measure=>simp[intOf];omega
set_option maxRecDepth 100000 in
set_option maxHeartbeats 4000000 in
theorem rTm_any(K:Int)(l:List UInt8)(w:World)(hl:l.length≤1000000):Calls Tryz.prog 81 #[.agg #[.int .i64 K,.string (strB l)]] w fun e w'=>e=.returned (.string (strB (tmT (K,l))))∧Below w.heap.size w w':=by
 have hz:(strB l).size≤1000000:=by rw[strB_size];exact hl
 have h2:strB l++⟨#[42]⟩=strB (l++[42]):=by rw[←strB_app];rfl
 have h3:⟨#[42]⟩++strB l=strB (42::l):=(strB_app [42] l:_)
 have fb:Below w.heap.size w (w.alloc (.cells #[.int .i64 K,.string (strB l)] 42)):=(Below.refl _ w).alloc (Nat.le_refl _) _
 obtain⟨R,hR⟩:∃R,strB (tmT (K,l))=R:=⟨_,rfl⟩
 have c1:K=1→R=strB l:=fun h=>by rw[←hR,h];rfl
 have c2:K=2→R=strB (l++[42]):=fun h=>by rw[←hR,h];rfl
 have c3:K=3→R=strB (42::l):=fun h=>by rw[←hR,h];rfl
 have c4:K≠1→K≠2→K≠3→R=⟨#[42]⟩:=fun g1 g2 g3=>by rw[←hR];unfold tmT;simp only[g1,g2,g3,if_false];rfl
 rw[hR]
 have C1:=Lib.hid c1;have C2:=Lib.hid c2;have C3:=Lib.hid c3;have C4:=Lib.hid c4
 clear hR c1 c2 c3 c4
 generalize strB (l++[42])=s2 at *
 generalize strB (42::l)=s3 at *
 generalize strB l=s1 at *
 have q1:¬9223372036854775807<s1.size+1:=by omega
 have q2:¬9223372036854775807<1+s1.size:=by omega
 by_cases h1:K=1
 ·have d1:(K==1)=true:=by simp[h1]
  have hc:=C1.out h1
  have HC:=Lib.hid hc
  clear hc h1
  go_enter Tryz.func81,Tryz.ntmps81
  go_wp2_with fail
  go_ret
  exact⟨by rw[HC.out];rfl,fb⟩
 have d1:(K==1)=false:=by simp[h1]
 by_cases h2':K=2
 ·have d2:(K==2)=true:=by simp[h2']
  have hc:=C2.out h2'
  have HC:=Lib.hid hc
  clear hc h1 h2'
  go_enter Tryz.func81,Tryz.ntmps81
  go_wp2_with fail
  go_ret
  exact⟨by rw[HC.out];first|rfl|rw[←h2],fb⟩
 have d2:(K==2)=false:=by simp[h2']
 by_cases h3':K=3
 ·have d3:(K==3)=true:=by simp[h3']
  have hc:=C3.out h3'
  have HC:=Lib.hid hc
  clear hc h1 h2' h3'
  go_enter Tryz.func81,Tryz.ntmps81
  go_wp2_with fail
  go_ret
  exact⟨by rw[HC.out];first|rfl|rw[←h3],fb⟩
 have d3:(K==3)=false:=by simp[h3']
 have hc:=C4.out h1 h2' h3'
 have HC:=Lib.hid hc
 clear hc h1 h2' h3'
 go_enter Tryz.func81,Tryz.ntmps81
 go_wp2_with fail
 go_ret
 exact⟨by rw[HC.out];rfl,fb⟩
set_option maxRecDepth 100000 in
set_option maxHeartbeats 4000000 in
theorem rCut_any(l:List UInt8)(c:UInt8)(hl:l.length≤1000000)(w:World) :
  Calls Tryz.prog 29 #[.string (strB l),.int .u8 (c.toNat:Int)] w fun e w'=>∃A n cp,e=.returned (.slice A n cp)∧OwnR sC 1 w' w.heap.size 9 (.slice A n cp) (spl c l)∧Below w.heap.size w w':=by
 have zz:(strB l).size=l.length:=strB_size l
 have HG:∀(k:Nat)(h:k<l.length)(h':k<(strB l).size),(strB l)[k]=l[k]:=fun k h h'=>rfl
 have HX:∀f i:Nat,(strB l).extract f i=strB ((l.drop f).take (i-f)):=ext_str l
 obtain⟨s,hs⟩:∃s,strB l=s:=⟨_,rfl⟩
 rw[hs] at zz HX ⊢
 have HG':∀(k:Nat)(h:k<l.length)(h':k<s.size),s[k]=l[k]:=by subst hs;exact HG
 clear HG hs
 have HG:=HG'
 clear HG'
 have HG2:=Lib.hid HG
 have HX2:=Lib.hid HX
 clear HG HX
 have zz2:s.size≤1000000:=by omega
 have HZ:=Lib.hid zz;clear zz
 have hcb:c.toNat<256:=c.toNat_lt
 go_enter Tryz.func29,Tryz.ntmps29
 go_wp2_with fail
 go_loopw [5,6,7] (fun s5 s6 s7 wr=>∃(D:List (List UInt8)) (f i n:Nat) (A:Option Addr) (cp:Nat),s5=.slice A n cp∧D.length=n∧s6=.int .i64 (f:Int)∧s7=.int .i64 (i:Int)∧CutS c l D f i∧OwnR sC 1 wr w.heap.size 9 (.slice A n cp) D∧Below w.heap.size w wr) (fun _ _ s7 _=>l.length+1-(intOf s7).toNat)
 case atStart=>exact⟨[],0,0,0,none,0,rfl,rfl,rfl,rfl,.inl (cutAt_start c l),OwnR.nil,Below.refl _ _⟩
 case round =>
  obtain⟨D,f,i,n,A,cp,rfl,hDn,rfl,rfl,hcs,o1,f1⟩:=hrel
  have hlen:=hcs.len
  obtain⟨hlen1,hlen2⟩:=hlen
  have hcap:=o1.cap
  by_cases hlt:i<l.length
  ·have hca:CutAt c l D f i:=by
    rcases hcs with h|⟨h,_⟩
    ·exact h
    omega
   have hfi:=hca.le
   have HCA:=Lib.hid hca
   clear hca hcs
   have his:i<s.size:=by rw[HZ.out];exact hlt
   have d0:decide ((i:Int)≤(s.size:Int))=true:=by simp;omega
   have d1:((i:Int)==(s.size:Int))=false:=by rw[beq_eq_false_iff_ne];omega
   have b0:(0:Int)≤(i:Int):=by omega
   have b1:(i:Int)<(s.size:Int):=by omega
   have hg:=HG2.out i hlt his
   obtain⟨y,hy⟩:∃y,s[i]=y:=⟨_,rfl⟩
   have hyl:l[i]=y:=by rw[←hg,hy]
   have HYL:=Lib.hid hyl
   have HY:=Lib.hid hy
   clear hg hyl hy
   have hyb:y.toNat<256:=y.toNat_lt
   by_cases hyc:y=c
   ·have d2:((s[i].toNat:Int)==(c.toNat:Int))=true:=by rw[HY.out,hyc];simp
    have hx:=HX2.out f i
    obtain⟨p,hp⟩:∃p,(l.drop f).take (i-f)=p:=⟨_,rfl⟩
    rw[hp] at hx
    have HN:=Lib.hid (show CutS c l (D++[p]) (i+1) (i+1) by rw[←hp];exact .inl (cutAt_hit HCA.out hlt (by rw[HYL.out];exact hyc)))
    clear hp
    have c0:(0:Int)≤(f:Int):=by omega
    have c1:(f:Int)≤(i:Int):=by omega
    have c2:(i:Int)≤(s.size:Int):=by omega
    have oz:=one_str wr p (wr.heap.size+1) (by omega)
    have hbp:Below w.heap.size wr (wr.alloc (.cells #[.string (strB p)] 9)):=(Below.refl _ _).alloc f1.size _
    go_wp2_with (first|(at_builtin;go_must (refine appendRow TS sC_len sC_one rfl rfl rfl (o1.below (Nat.le_refl _) ((Below.refl _ wr).alloc (Nat.le_refl _) _)) rfl oz (by omega) (by simp only[maxLen];omega) hbp f1.size ?_);intro A5 c5 w5 o5 f5 g5))
    have f6:=f1.trans f5
    clear g5 oz hbp f5 f1 o1
    go_roundw
    case rel=>exact⟨D++[p],i+1,i+1,n+1,A5,c5,rfl,by rw[List.length_append];simp;omega,by go_num,by go_num,HN.out,o5,f6⟩
    case measure=>simp[intOf];omega
   have d2:((s[i].toNat:Int)==(c.toNat:Int))=false:=by
    rw[beq_eq_false_iff_ne,HY.out]
    intro e
    exact hyc (UInt8.toNat_inj.1 (by omega))
   have HN:=Lib.hid (show CutS c l D f (i+1) from .inl (cutAt_miss HCA.out hlt (by rw[HYL.out];exact hyc)))
   clear hyc
   go_wp2_with fail
   go_roundw
   case rel=>exact⟨D,f,i+1,n,A,cp,rfl,hDn,rfl,by go_num,HN.out,o1,f1⟩
   case measure=>simp[intOf];omega
  by_cases hle:i=l.length
  ·subst hle
   have hca:CutAt c l D f l.length:=by
    rcases hcs with h|⟨h,_⟩
    ·exact h
    omega
   have hfi:=hca.le
   have hx:=HX2.out f l.length
   obtain⟨p,hp⟩:∃p,(l.drop f).take (l.length-f)=p:=⟨_,rfl⟩
   rw[hp] at hx
   have HN:=Lib.hid (show CutS c l (D++[p]) (l.length+1) (l.length+1) by rw[←hp];exact .inr ⟨rfl,cutAt_end hca⟩)
   clear hp hca hcs
   have hz:=HZ.out
   rw[←hz] at hx HN hlen1 hfi ⊢
   clear hlt hlen2 hz
   have d0:decide ((s.size:Int)≤(s.size:Int))=true:=by simp
   have d1:((s.size:Int)==(s.size:Int))=true:=by simp
   have c0:(0:Int)≤(f:Int):=by omega
   have c1:(f:Int)≤(s.size:Int):=by omega
   have c2:(s.size:Int)≤(s.size:Int):=by omega
   have c3:(0:Int)≤(s.size:Int):=by omega
   have oz:=one_str wr p (wr.heap.size+1) (by omega)
   have hbp:Below w.heap.size wr (wr.alloc (.cells #[.string (strB p)] 9)):=(Below.refl _ _).alloc f1.size _
   go_wp2_with (first|(at_builtin;go_must (refine appendRow TS sC_len sC_one rfl rfl rfl (o1.below (Nat.le_refl _) ((Below.refl _ wr).alloc (Nat.le_refl _) _)) rfl oz (by omega) (by simp only[maxLen];omega) hbp f1.size ?_);intro A5 c5 w5 o5 f5 g5))
   have f6:=f1.trans f5
   clear g5 oz hbp f5 f1 o1
   go_roundw
   case rel=>exact⟨D++[p],s.size+1,s.size+1,n+1,A5,c5,rfl,by rw[List.length_append];simp;omega,by go_num,by go_num,HN.out,o5,f6⟩
   case measure=>first|(simp[intOf];done)|(simp[intOf];omega)
  have hD:D=spl c l:=by
   rcases hcs with h|⟨_,h⟩
   ·have:=h.li;omega
   exact h
  have hz:=HZ.out
  have d0:decide ((i:Int)≤(s.size:Int))=false:=by simp;omega
  have d0':decide (i≤s.size)=false:=by simp;omega
  have d0'':¬i≤s.size:=by omega
  clear hz hcs
  subst hD
  go_wp2_with fail
  go_ret
  exact⟨A,n,cp,rfl,o1,f1⟩
theorem decV_take{l:List UInt8}{i:Nat}(h:i<l.length):decV (l.take (i+1))=decV (l.take i)*10+(l[i].toNat-48):=by
 unfold decV
 rw[←List.take_append_getElem h,List.foldl_append]
 rfl
theorem numO_len{l:List UInt8}{n:Nat}(h:numO l=some n):1≤l.length∧l.length≤20∧n=decV l∧n<18446744073709551616∧Lib.decDigits n=l:=by
 unfold numO at h
 split at h
 ·rename_i hh
  injection h with h
  subst h
  have h20:=dec_len20 hh.1
  rw[hh.2] at h20
  refine⟨?_,h20,rfl,hh.1,hh.2⟩
  rcases l with _|⟨b,l⟩
  ·have:=hh.2
   rw[Lib.decDigits] at this
   split at this
   ·simp at this
   simp at this
  simp
 cases h
theorem numO_dig{l:List UInt8}{i:Nat}(hi:i<l.length)(hb:l[i].toNat<48∨57<l[i].toNat):numO l=none:=by
 rcases h:numO l with _|n
 ·rfl
 obtain⟨_,_,_,_,h5⟩:=numO_len h
 have:=dec_digit n l[i] (by rw[h5];exact List.getElem_mem hi)
 omega
theorem numO_mod{l:List UInt8}{n:Nat}(hn:n=decV l%18446744073709551616):(numO l).isSome=decide (Lib.decDigits n=l)∧∀m,numO l=some m→n=m:=by
 by_cases h:Lib.decDigits n=l
 ·have hv:decV l=n:=by rw[←h,decV_dec]
  have hlt:n<18446744073709551616:=by rw[hn];exact Nat.mod_lt _ (by decide)
  have hs:numO l=some n:=by
   unfold numO
   rw[hv,if_pos ⟨hlt,h⟩]
  exact⟨by rw[hs,decide_eq_true h];rfl,fun m hm=>by rw[hs] at hm;injection hm⟩
 have hs:numO l=none:=by
  rcases hh:numO l with _|m
  ·rfl
  obtain⟨_,_,h3,h4,h5⟩:=numO_len hh
  exfalso
  apply h
  rw[hn,←h3,Nat.mod_eq_of_lt h4]
  exact h5
 exact⟨by rw[hs,decide_eq_false h];rfl,fun m hm=>by rw[hs] at hm;cases hm⟩
def RNumP(l:List UInt8)(w:World)(e:Ending)(w':World):Prop:=∃v:Nat,v<18446744073709551616∧e=.returned (.tuple #[.int .u64 (v:Int),.bool (numO l).isSome])∧(∀m,numO l=some m→v=m)∧Below w.heap.size w w'
set_option maxRecDepth 100000 in
set_option maxHeartbeats 4000000 in
theorem rNum_any(l:List UInt8)(hl:l.length≤1000000)(w:World):Calls Tryz.prog 57 #[.string (strB l)] w fun e w'=>RNumP l w e w':=by
 unfold RNumP
 have hnl:=fun n (h:numO l=some n)=>numO_len h
 have hnd:=fun(i:Nat)(hi:i<l.length) hb=>numO_dig (l:=l) (i:=i) hi hb
 have hmd:=fun(n:Nat) hn=>numO_mod (l:=l) (n:=n) hn
 obtain⟨q,hq⟩:∃q,numO l=q:=⟨_,rfl⟩
 rw[hq] at hnl hnd hmd ⊢
 have zz:(strB l).size=l.length:=strB_size l
 have hget:∀(k:Nat)(h:k<l.length),(strB l)[k]'(by rw[zz];exact h)=l[k]:=fun k h=>rfl
 obtain⟨s,hs⟩:∃s,strB l=s:=⟨_,rfl⟩
 rw[hs]
 rw[hs] at zz
 have HG:∀(k:Nat)(h:k<l.length)(h':k<s.size),s[k]=l[k]:=fun k h h'=>by
  subst hs;exact hget k h
 have hzl:s.toList=l:=by rw[←hs];exact strB_toList l
 have HG2:=Lib.hid HG;have HZL:=Lib.hid hzl;have HNL:=Lib.hid hnl;have HND:=Lib.hid hnd;have HMD:=Lib.hid hmd
 clear HG hget hs hzl hnl hnd hmd hq
 have zz2:s.size≤1000000:=by omega
 have HZ:=Lib.hid zz;clear zz
 by_cases h0:l.length=0∨20<l.length
 ·obtain rfl:q=none:=by
   rcases q with _|m
   ·rfl
   have:=HNL.out m rfl;omega
  have hz:=HZ.out
  rcases h0 with h0|h0
  ·have d0:((s.size:Int)==0)=true:=by rw[beq_iff_eq];omega
   clear hz h0
   go_enter Tryz.func57,Tryz.ntmps57
   go_wp2_with fail
   go_ret2
   first|exact⟨0,by omega,rfl,Below.refl _ _⟩|exact⟨0,by omega,rfl,(fun m hm=>by cases hm),Below.refl _ _⟩
  have d0:((s.size:Int)==0)=false:=by rw[beq_eq_false_iff_ne];omega
  have d1:decide ((20:Int)<(s.size:Int))=true:=by simp;omega
  have d2:(20:Int)<(s.size:Int):=by omega
  clear hz h0
  go_enter Tryz.func57,Tryz.ntmps57
  go_wp2_with fail
  go_ret2
  first|exact⟨0,by omega,rfl,Below.refl _ _⟩|exact⟨0,by omega,rfl,(fun m hm=>by cases hm),Below.refl _ _⟩
 have hz:=HZ.out
 have d0:((s.size:Int)==0)=false:=by rw[beq_eq_false_iff_ne];omega
 have d1:decide ((20:Int)<(s.size:Int))=false:=by simp;omega
 have d2:¬(20:Int)<(s.size:Int):=by omega
 clear hz h0
 go_enter Tryz.func57,Tryz.ntmps57
 go_wp2_with fail
 clear d0 d1 d2
 go_loop [5,4] (fun s5 s4=>∃i n:Nat,i≤l.length∧s5=.int .i64 (i:Int)∧s4=.int .u64 (n:Int)∧n=decV (l.take i)%18446744073709551616) (fun s5 _=>l.length-(intOf s5).toNat)
 case atStart=>exact⟨0,0,Nat.zero_le _,rfl,rfl,rfl⟩
 case round =>
  obtain⟨i,n,hil,rfl,rfl,hst⟩:=hrel
  by_cases hlt:i<l.length
  ·have his:i<s.size:=by rw[HZ.out];exact hlt
   have d0:decide ((i:Int)<(s.size:Int))=true:=by simp;omega
   have b0:(0:Int)≤(i:Int):=by omega
   have b1:(i:Int)<(s.size:Int):=by omega
   have hg:=HG2.out i hlt his
   have hdv:=decV_take hlt
   have hnd:=HND.out i hlt
   obtain⟨c,hc⟩:∃c,s[i]=c:=⟨_,rfl⟩
   have hcl:l[i]=c:=by rw[←hg,hc]
   rw[hcl] at hdv hnd
   have HC:=Lib.hid hc
   clear hg hcl hc
   have hcb:c.toNat<256:=c.toNat_lt
   by_cases c1:c.toNat<48
   ·have e1:decide ((s[i].toNat:Int)<48)=true:=by rw[HC.out];simp;omega
    have e2:decide (s[i].toNat<48)=true:=by rw[HC.out];simp;omega
    have e3:s[i].toNat<48:=by rw[HC.out];exact c1
    obtain rfl:=hnd (.inl c1)
    clear hst hdv hnd
    go_wp2_with fail
    go_ret2
    first|exact⟨0,by omega,rfl,Below.refl _ _⟩|exact⟨0,by omega,rfl,(fun m hm=>by cases hm),Below.refl _ _⟩
   have e1:decide ((s[i].toNat:Int)<48)=false:=by rw[HC.out];simp;omega
   have e2:decide (s[i].toNat<48)=false:=by rw[HC.out];simp;omega
   have e3:¬s[i].toNat<48:=by rw[HC.out];exact c1
   by_cases c2:57<c.toNat
   ·have g1:decide ((57:Int)<(s[i].toNat:Int))=true:=by rw[HC.out];simp;omega
    have g2:decide (57<s[i].toNat)=true:=by rw[HC.out];simp;omega
    have g3:57<s[i].toNat:=by rw[HC.out];exact c2
    obtain rfl:=hnd (.inr c2)
    clear hst hdv hnd
    go_wp2_with fail
    go_ret2
    first|exact⟨0,by omega,rfl,Below.refl _ _⟩|exact⟨0,by omega,rfl,(fun m hm=>by cases hm),Below.refl _ _⟩
   have g1:decide ((57:Int)<(s[i].toNat:Int))=false:=by rw[HC.out];simp;omega
   have g2:decide (57<s[i].toNat)=false:=by rw[HC.out];simp;omega
   have g3:¬57<s[i].toNat:=by rw[HC.out];exact c2
   have wv:IntKind.u8.wrap ((s[i].toNat:Int)-48)=((c.toNat-48:Nat):Int):=by rw[HC.out,IntWalk.u8_in _ (by omega)];omega
   obtain⟨d,hd⟩:∃d,c.toNat-48=d:=⟨_,rfl⟩
   rw[hd] at wv hdv
   have hd9:d≤9:=by omega
   have wd:IntKind.u64.wrap (d:Int)=(d:Int):=IntWalk.u64_in _ (by omega)
   have hn64:n<18446744073709551616:=by rw[hst];exact Nat.mod_lt _ (by decide)
   have w1:IntKind.u64.wrap ((n:Int)*10)=((n*10%18446744073709551616:Nat):Int):=by simp[IntKind.wrap,IntKind.bits,IntKind.signed]
   obtain⟨m1,hm1⟩:∃m,n*10%18446744073709551616=m:=⟨_,rfl⟩
   rw[hm1] at w1
   have w2:IntKind.u64.wrap ((m1:Int)+(d:Int))=(((m1+d)%18446744073709551616:Nat):Int):=by simp[IntKind.wrap,IntKind.bits,IntKind.signed]
   obtain⟨m2,hm2⟩:∃m,(m1+d)%18446744073709551616=m:=⟨_,rfl⟩
   rw[hm2] at w2
   have hnx:m2=decV (l.take (i+1))%18446744073709551616:=by rw[hdv];omega
   have HNX:=Lib.hid hnx
   clear hnx hm1 hm2 hst hdv hnd hd c1 c2
   go_wp2_with fail
   go_round
   case rel=>exact⟨i+1,m2,by omega,by go_num,rfl,HNX.out⟩
   case measure=>simp[intOf];omega
  have hzz:=HZ.out
  have d0:decide ((i:Int)<(s.size:Int))=false:=by simp;omega
  have d0':¬i<s.size:=by omega
  clear hzz
  obtain rfl:i=l.length:=by omega
  rw[List.take_length] at hst
  obtain⟨h1,h2⟩:=HMD.out n hst
  have hn64:n<18446744073709551616:=by rw[hst];exact Nat.mod_lt _ (by decide)
  have hd:=fun w=>rDig_any n w hn64
  have hzl:=HZL.out
  have de:((strB (Lib.decDigits n)).toList==s.toList)=q.isSome:=by rw[strB_toList,hzl,h1,Bool.eq_iff_iff];simp
  have de2:(Lib.decDigits n==s.toList)=q.isSome:=by rw[hzl,h1,Bool.eq_iff_iff];simp
  have H2:=Lib.hid h2
  clear h1 h2 hst hzl
  obtain⟨qs,hqs⟩:∃y,q.isSome=y:=⟨_,rfl⟩
  rw[hqs] at de de2
  have HQS:=Lib.hid hqs;clear hqs
  go_wp2_with fail
  refine (hd _).mono ?_
  rintro _ w9 ⟨rfl,f9⟩
  go_wp2_with fail
  go_ret2
  exact⟨n,hn64,by rw[HQS.out];rfl,H2.out,f9⟩
open Go.RowKit
def pickO(key:List UInt8)(ws:List (List UInt8)):List UInt8×List (List UInt8) :=
 match ws with
 | k::v::r=>if k=key∧v≠[] then (v,r) else ([],ws)
 | _=>([],ws)
def listV{α:Type}(one:List UInt8→Option α)(v:List UInt8):Option (List α):=if v=[] then some [] else mapO one (spl 44 v)
theorem pick_other{key word:List UInt8}{ws:List (List UInt8)}(h:ws.head?=some word)(hne:word≠key):pickO key ws=([],ws):=by
 rcases ws with _|⟨k,_|⟨v,r⟩⟩
 ·rfl
 ·rfl
 simp only[List.head?_cons,Option.some.injEq] at h
 unfold pickO
 simp only
 rw[if_neg]
 rintro ⟨h1,_⟩
 exact hne (h.symm.trans h1)
theorem elems_pick{α:Type}(word:List UInt8)(one:List UInt8→Option α)(ws:List (List UInt8)) :
  (elemsO word one ws=match listV one (pickO word ws).1 with|none=>none|some L=>some (L,(pickO word ws).2))∨(elemsO word one ws=none∧pickO word ws=([],ws)∧ws.head?=some word):=by
 rcases ws with _|⟨k,r⟩
 ·left;simp[elemsO,pickO,listV]
 by_cases hk:k=word
 ·subst hk
  rcases r with _|⟨v,r⟩
  ·right;simp[elemsO,pickO,listO]
  by_cases hv:v=[]
  ·subst hv
   right;simp[elemsO,pickO,listO]
  left
  have hp:pickO k (k::v::r)=(v,r):=by simp[pickO,hv]
  rw[hp]
  unfold elemsO listO listV
  simp only
  rw[if_pos trivial,if_neg hv,if_neg hv]
  rcases mapO one (spl 44 v) with _|L<;>rfl
 left
 have hp:pickO word (k::r)=([],k::r):=pick_other (word:=k) rfl hk
 rw[hp]
 simp[elemsO,hk,listV]
def fromW(ws:List (List UInt8)):Option Sr :=
 if (pickO wNets (pickO wSpaces (pickO wNames ws).2).2).2=[] then
  match listV readTm (pickO wNames ws).1 with
  | none=>none
  | some a=>match listV readTm (pickO wSpaces (pickO wNames ws).2).1 with
   | none=>none
   | some b=>match listV parseNetA (pickO wNets (pickO wSpaces (pickO wNames ws).2).2).1 with
    | none=>none
    | some c=>some ⟨a,b,c⟩
 else none
def toW(ws:List (List UInt8)):Option Tg :=
 if (pickO wHosts (pickO wPaths (pickO wMethods (pickO wPorts ws).2).2).2).2=[] then
  match listV readPt (pickO wPorts ws).1 with
  | none=>none
  | some a=>match listV readTm (pickO wMethods (pickO wPorts ws).2).1 with
   | none=>none
   | some b=>match listV readTm (pickO wPaths (pickO wMethods (pickO wPorts ws).2).2).1 with
    | none=>none
    | some c=>match listV readTm (pickO wHosts (pickO wPaths (pickO wMethods (pickO wPorts ws).2).2).2).1 with
     | none=>none
     | some d=>some ⟨a,b,c,d⟩
 else none
theorem ne_nil_of_head{ws:List (List UInt8)}{w:List UInt8}(h:ws.head?=some w):ws≠[]:=by
 rintro rfl
 cases h
theorem from_eq(ws:List (List UInt8)):fromO ws=fromW ws:=by
 unfold fromO fromW
 rcases elems_pick wNames readTm ws with h1|⟨h1,h2,h3⟩
 ·rw[h1]
  generalize hp1:pickO wNames ws=p1
  obtain⟨v1,r1⟩:=p1
  simp only
  rcases listV readTm v1 with _|a
  ·simp
  simp only
  rcases elems_pick wSpaces readTm r1 with g1|⟨g1,g2,g3⟩
  ·rw[g1]
   generalize hp2:pickO wSpaces r1=p2
   obtain⟨v2,r2⟩:=p2
   simp only
   rcases listV readTm v2 with _|b
   ·simp
   simp only
   rcases elems_pick wNets parseNetA r2 with k1|⟨k1,k2,k3⟩
   ·rw[k1]
    generalize hp3:pickO wNets r2=p3
    obtain⟨v3,r3⟩:=p3
    simp only
    rcases listV parseNetA v3 with _|c
    ·simp
    simp only
   rw[k1,k2]
   simp[ne_nil_of_head k3]
  rw[g1,g2]
  simp only
  rw[pick_other g3 (by decide)]
  simp[ne_nil_of_head g3]
 rw[h1,h2]
 simp only
 rw[pick_other h3 (by decide)]
 simp only
 rw[pick_other h3 (by decide)]
 simp[ne_nil_of_head h3]
theorem to_eq(ws:List (List UInt8)):toO ws=toW ws:=by
 unfold toO toW
 rcases elems_pick wPorts readPt ws with h1|⟨h1,h2,h3⟩
 ·rw[h1]
  generalize hp1:pickO wPorts ws=p1
  obtain⟨v1,r1⟩:=p1
  simp only
  rcases listV readPt v1 with _|a
  ·simp
  simp only
  rcases elems_pick wMethods readTm r1 with g1|⟨g1,g2,g3⟩
  ·rw[g1]
   generalize hp2:pickO wMethods r1=p2
   obtain⟨v2,r2⟩:=p2
   simp only
   rcases listV readTm v2 with _|b
   ·simp
   simp only
   rcases elems_pick wPaths readTm r2 with k1|⟨k1,k2,k3⟩
   ·rw[k1]
    generalize hp3:pickO wPaths r2=p3
    obtain⟨v3,r3⟩:=p3
    simp only
    rcases listV readTm v3 with _|c
    ·simp
    simp only
    rcases elems_pick wHosts readTm r3 with m1|⟨m1,m2,m3⟩
    ·rw[m1]
     generalize hp4:pickO wHosts r3=p4
     obtain⟨v4,r4⟩:=p4
     simp only
     rcases listV readTm v4 with _|d
     ·simp
     simp only
    rw[m1,m2]
    simp[ne_nil_of_head m3]
   rw[k1,k2]
   simp only
   rw[pick_other k3 (by decide)]
   simp[ne_nil_of_head k3]
  rw[g1,g2]
  simp only
  rw[pick_other g3 (by decide)]
  simp only
  rw[pick_other g3 (by decide)]
  simp[ne_nil_of_head g3]
 rw[h1,h2]
 simp only
 rw[pick_other h3 (by decide)]
 simp only
 rw[pick_other h3 (by decide)]
 simp only
 rw[pick_other h3 (by decide)]
 simp[ne_nil_of_head h3]
def whenW(ws:List (List UInt8)):Option Wn :=
 match ws with
 | [h,v]=>if h=[] then none else match mapO readTm (spl 44 v) with
  | none=>none
  | some L=>some ⟨h,L⟩
 | _=>none
theorem when_eq(ws:List (List UInt8)):whenO ws=whenW ws:=by
 rcases ws with _|⟨h,_|⟨v,_|⟨x,r⟩⟩⟩
 ·rfl
 ·unfold whenO whenW
  simp only
  split
  ·rfl
  simp[elemsO,listO]
 ·unfold whenO whenW
  simp only
  split
  ·rfl
  unfold elemsO listO
  simp only
  rw[if_pos trivial]
  by_cases hv:v=[]
  ·subst hv
   simp[spl,mapO,readTm_nil]
  rw[if_neg hv]
  rcases mapO readTm (spl 44 v) with _|L
  ·rfl
  simp
 unfold whenO whenW
 simp only
 split
 ·rfl
 unfold elemsO listO
 simp only
 rw[if_pos trivial]
 by_cases hv:v=[]
 ·subst hv;simp
 rw[if_neg hv]
 rcases mapO readTm (spl 44 v) with _|L
 ·rfl
 simp
def nsW(ws:List (List UInt8)):List UInt8×List (List UInt8):=pickO wNs ws
def svW(ws:List (List UInt8)):Option (Nat×List (List UInt8)) :=
 match ws with
 | k::v::r=>if k=wService then (match numO v with
   | none=>none
   | some n=>if n=0 then none else some (n,r)) else some (0,ws)
 | _=>some (0,ws)
def policyW(ws:List (List UInt8)):Option Po :=
 match ws with
 | a::b::r=>if b=wAllow∨b=wDeny then (match numO a with
   | none=>none
   | some n=>match svW (nsW r).2 with
    | none=>none
    | some (sv,r4)=>if r4=[] then some ⟨n,(nsW r).1,sv,if b=wDeny then 1 else 0,[]⟩ else none) else none
 | _=>none
theorem ns_eq(ws:List (List UInt8)):nsO ws=some (nsW ws)∨(nsO ws=none∧nsW ws=([],ws)∧ws.head?=some wNs):=by
 unfold nsO nsW
 rcases ws with _|⟨k,r⟩
 ·left;rfl
 by_cases hk:k=wNs
 ·subst hk
  simp only
  rw[if_pos trivial]
  rcases r with _|⟨v,r⟩
  ·right;exact⟨rfl,rfl,rfl⟩
  by_cases hv:v=[]
  ·subst hv
   right
   refine⟨by simp,?_,rfl⟩
   unfold pickO;simp
  left
  simp[pickO,hv]
 left
 simp only
 rw[if_neg hk,pick_other (word:=k) rfl hk]
theorem sv_eq(ws:List (List UInt8)):svcO ws=svW ws∨(svcO ws=none∧svW ws=some (0,ws)∧ws≠[]):=by
 unfold svcO svW
 rcases ws with _|⟨k,r⟩
 ·left;rfl
 by_cases hk:k=wService
 ·subst hk
  simp only
  rw[if_pos trivial]
  rcases r with _|⟨v,r⟩
  ·right;exact⟨rfl,rfl,by simp⟩
  left
  unfold numberO
  simp only
  rw[if_pos trivial]
  rcases numO v with _|n<;>rfl
 left
 simp only
 rw[if_neg hk]
 rcases r with _|⟨v,r⟩
 ·rfl
 simp only
 rw[if_neg hk]
theorem policy_eq(ws:List (List UInt8)):policyO ws=policyW ws:=by
 unfold policyO policyW
 rcases ws with _|⟨a,r⟩
 ·rfl
 unfold numberO
 simp only
 rcases r with _|⟨b,r⟩
 ·rcases numO a with _|n<;>rfl
 simp only
 rcases numO a with _|n
 ·simp only;split<;>rfl
 simp only
 have hd:denyO (b::r)=if b=wAllow∨b=wDeny then some (if b=wDeny then 1 else 0,r) else none:=by
  unfold denyO
  simp only
  by_cases h1:b=wDeny
  ·rw[if_pos h1,if_pos (.inr h1),if_pos h1]
  by_cases h2:b=wAllow
  ·rw[if_neg h1,if_pos h2,if_pos (.inl h2),if_neg h1]
  rw[if_neg h1,if_neg h2,if_neg (by rintro (h|h);exact h2 h;exact h1 h)]
 rw[hd]
 clear hd
 by_cases hbb:b=wAllow∨b=wDeny
 ·rw[if_pos hbb,if_pos hbb]
  simp only
  rcases ns_eq r with h1|⟨h1,h2,h3⟩
  ·rw[h1]
   generalize nsW r=p
   obtain⟨ns,r3⟩:=p
   simp only
   rcases sv_eq r3 with g1|⟨g1,g2,g3⟩
   ·rw[g1]
    rcases svW r3 with _|⟨sv,r4⟩<;>rfl
   rw[g1,g2]
   simp[g3]
  rw[h1,h2]
  simp only
  have:svW r=some (0,r):=by
   unfold svW
   rcases r with _|⟨k,_|⟨v,r⟩⟩
   ·rfl
   ·rfl
   simp only[List.head?_cons,Option.some.injEq] at h3
   subst h3
   simp only
   rw[if_neg (by decide)]
  rw[this]
  simp[ne_nil_of_head h3]
 rw[if_neg hbb,if_neg hbb]
def PaR(u:World):Prop:=True
def candC(s:List UInt8):List Tm:=[(4,[]),(1,s)]++(if s=[] then [] else [(2,s.dropLast),(3,s.tail)])
theorem cand_mem{s:List UInt8}{t:Tm}(h:readTm s=some t):t∈candC s:=by
 obtain⟨h1,h2⟩:=readTm_inv h
 have h3:=kinds4 h2
 obtain⟨k,l⟩:=t
 unfold tmT at h1
 simp only at h1 h3
 unfold candC
 rcases h3 with ⟨rfl,rfl⟩|⟨rfl|rfl|rfl,hn⟩
 ·simp
 ·simp only[if_true] at h1
  subst h1
  simp
 ·simp only[show ¬(2:Int)=1 by decide,if_false,if_true] at h1
  subst h1
  rw[if_neg (by simp),List.dropLast_concat]
  simp
 simp only[show ¬(3:Int)=1 by decide,show ¬(3:Int)=2 by decide,if_false,if_true] at h1
 subst h1
 rw[if_neg (by simp)]
 simp
theorem cand_none{s:List UInt8}(h:∀t∈candC s,tmMay t=true→tmT t≠s):readTm s=none:=by
 rcases hr:readTm s with _|t
 ·rfl
 obtain⟨h1,h2⟩:=readTm_inv hr
 exact absurd h1 (h t (cand_mem hr) h2)
theorem cand_some{s:List UInt8}{t:Tm}(h1:tmMay t=true)(h2:tmT t=s):readTm s=some t:=by rw[←h2];exact readTm_of h1
theorem cand_len{s:List UInt8}:∀t∈candC s,t.2.length≤s.length:=by
 intro t ht
 unfold candC at ht
 split at ht
 ·simp only[List.append_nil,List.mem_cons,List.mem_nil_iff,or_false] at ht
  rcases ht with rfl|rfl<;>simp
 simp only[List.cons_append,List.nil_append,List.mem_cons,List.mem_nil_iff,or_false] at ht
 rcases ht with rfl|rfl|rfl|rfl<;>simp
def tmAns(o:Option Tm):Value:=match o with
 | none=>.tuple #[.agg #[.int .i64 0,.string ⟨#[]⟩],.bool false]
 | some t=>.tuple #[.agg #[.int .i64 t.1,.string (strB t.2)],.bool true]
theorem two_rd{w u:World}{g t:Nat}{a b:Tm}(k:Blk u g t (tmC a++tmC b))(hg:g<u.heap.size):RdR tmC 2 u u.heap.size (some ⟨g,0,none⟩) 2 [a,b]:=by
 refine⟨rfl,fun _=>⟨g,0,rfl,hg,fun j hj i v hv=>?_⟩⟩
 have hi:i<2:=(List.getElem?_eq_some_iff.1 hv).1
 rw[Nat.zero_add,k.cell]
 rcases j with _|_|j
 ·rw[Nat.zero_mul,Nat.zero_add,List.getElem?_append_left (by exact hi)]
  exact hv
 ·rw[List.getElem?_append_right (by simp[tmC_len])]
  simp only[tmC_len,Nat.one_mul,Nat.zero_add,Nat.add_sub_cancel_left]
  exact hv
 have hj2:j+1+1<2:=hj
 omega
theorem two_own{u:World}{g base:Nat}{a b:Tm}(k:Blk u g 42 (tmC a++tmC b))(hg:base≤g):OwnR tmC 2 u base 42 (.slice (some ⟨g,0,none⟩) 2 2) [a,b] :=
 ⟨by simp[flatR,tmC_len],.inr ⟨g,2,(tmC a++tmC b).toArray,rfl,hg,k,Nat.le_refl _,by simp[maxLen],by simp[tmC_len],by simp[flatR,tmC]⟩⟩
set_option maxRecDepth 100000 in
set_option maxHeartbeats 8000000 in
theorem rTmP_any(s:List UInt8)(hl:s.length≤1000000)(w:World):Calls Tryz.prog 98 #[.string (strB s)] w fun e w'=>e=.returned (tmAns (readTm s))∧Below w.heap.size w w':=by
 have HI:=Lib.hid (show (Tryz.prog.info? 42).map (·.size)=some 2 by kernel_rfl)
 have HX:∀f i:Nat,(strB s).extract f i=strB ((s.drop f).take (i-f)):=ext_str s
 have zz:(strB s).size=s.length:=strB_size s
 have hss:(strB s).toList=s:=strB_toList s
 obtain⟨ss,hs2⟩:∃y,strB s=y:=⟨_,rfl⟩
 rw[hs2] at HX zz hss ⊢
 have HSS:=Lib.hid hss;have HS2:=Lib.hid hs2;have HZ:=Lib.hid zz
 clear hss hs2 zz
 have zb:ss.size≤1000000:=by rw[HZ.out];exact hl
 by_cases h0:s=[]
 ·have d0:decide ((0:Int)<(ss.size:Int))=false:=by rw[HZ.out,h0];rfl
  have d1:¬0<ss.size:=by rw[HZ.out,h0];simp
  have hC:candC s=[(4,[]),(1,s)]:=by unfold candC;rw[if_pos h0,List.append_nil]
  have k0:Blk (w.alloc (.cells #[.int .i64 0,.string ⟨#[]⟩] 42)) w.heap.size 42 [.int .i64 0,.string ⟨#[]⟩]:=Blk.newAt rfl _ _
  have k1:Blk ((w.alloc (.cells #[.int .i64 0,.string ⟨#[]⟩] 42)).alloc (.cells #[.int .i64 4,.string ⟨#[]⟩,.int .i64 1,.string ss] 42)) (w.alloc (.cells #[.int .i64 0,.string ⟨#[]⟩] 42)).heap.size 42 [.int .i64 4,.string ⟨#[]⟩,.int .i64 1,.string ss]:=Blk.newAt rfl _ _
  have hrow0:=two_rd (w:=w) (a:=(4,[])) (b:=(1,s)) (by unfold tmC;rw[HS2.out];exact k1) k1.lt
  rw[←hC] at hrow0
  have kc0:=k0.alloc (.cells #[.int .i64 4,.string ⟨#[]⟩,.int .i64 1,.string ss] 42)
  have F0:Below w.heap.size w ((w.alloc (.cells #[.int .i64 0,.string ⟨#[]⟩] 42)).alloc (.cells #[.int .i64 4,.string ⟨#[]⟩,.int .i64 1,.string ss] 42)):=((Below.refl _ _).alloc (Nat.le_refl _) _).alloc (by simp) _
  have hg1:(w.alloc (.cells #[.int .i64 0,.string ⟨#[]⟩] 42)).heap.size=w.heap.size+1:=by simp
  rw[hg1] at hrow0
  clear HX
  obtain⟨wc,hwc⟩:∃wc,(w.alloc (.cells #[.int .i64 0,.string ⟨#[]⟩] 42)).alloc (.cells #[.int .i64 4,.string ⟨#[]⟩,.int .i64 1,.string ss] 42)=wc:=⟨_,rfl⟩
  rw[hwc] at hrow0 kc0 F0
  have hrow:=hrow0;have kc:=kc0;have F1:=F0
  clear k0 k1 hrow0 kc0 F0 hC hg1
  go_enter Tryz.func98,Tryz.ntmps98
  have HR:=Lib.hid hrow
  have HNO:=Lib.hid (fun h=>cand_none (s:=s) h)
  have HCL:=Lib.hid (cand_len (s:=s))
  have hbl:=kc.lt
  go_wp2_with fail
  go_loopw [5] (fun v5 wr=>∃i:Nat,v5=.int .i64 (i:Int)∧i≤2∧(∀j,j<i→∀(hj:j<(candC s).length),tmMay (candC s)[j]=true→tmT (candC s)[j]≠s)∧Below wc.heap.size wc wr) (fun v5 _=>2-(intOf v5).toNat)
  case atStart=>exact⟨0,rfl,by omega,fun j hj=>absurd hj (by omega),Below.refl _ _⟩
  case round =>
   obtain⟨i,rfl,hi,hno,f2⟩:=hrel
   have F2:=F1.trans (f2.mono F1.size)
   have kc2:=kc.below f2 hbl
   have z0:=kc2.cell 0
   have z1:=kc2.cell 1
   simp only[List.getElem?_cons_zero,List.getElem?_cons_succ] at z0 z1
   have hcn:=HR.out.1
   by_cases hlt:i<2
   ·have d5:decide ((i:Int)<(2:Int))=true:=by simp;omega
    have b1:(0:Int)≤(i:Int):=by omega
    have b2:(i:Int)<(2:Int):=by omega
    have hic:i<(candC s).length:=by omega
    obtain⟨b,off,hA,hb,hcell⟩:=HR.out.2 (by omega)
    have g0:=(f2.cell (p:=⟨b,off+i*2+0,none⟩) hb).trans (hcell i hic 0 _ rfl)
    have g1:=(f2.cell (p:=⟨b,off+i*2+1,none⟩) hb).trans (hcell i hic 1 _ rfl)
    rw[Nat.add_zero] at g0
    clear hcell
    have hlen:=HCL.out _ (List.getElem_mem hic)
    have hsm:=cand_some (s:=s) (t:=(candC s)[i])
    have hst:∀j,j<i+1→(¬(tmMay (candC s)[i]=true∧tmT (candC s)[i]=s))→∀(hj:j<(candC s).length),tmMay (candC s)[j]=true→tmT (candC s)[j]≠s:=fun j hj hx hjl h1 h2=>by
     by_cases e:j=i
     ·subst e;exact hx ⟨h1,h2⟩
     exact hno j (by omega) hjl h1 h2
    obtain⟨x,hx⟩:∃x,(candC s)[i]=x:=⟨_,rfl⟩
    rw[hx] at hlen hsm hst
    replace g0:wr.cell? ⟨b,off+i*2,none⟩=some (.int .i64 x.1):=by rw[←hx];exact g0
    replace g1:wr.cell? ⟨b,off+i*2+1,none⟩=some (.string (strB x.2)):=by rw[←hx];exact g1
    clear hx hno
    obtain⟨k,l⟩:=x
    simp only at g0 g1 hlen
    have hm:=fun u=>rtMay_any k l u (by omega)
    have hp:=fun u=>rTm_any k l u (by omega)
    have HST:=Lib.hid hst;have HSM:=Lib.hid hsm
    first|subst hA|(injection hA with hA;injection hA with hA1 hA2;subst hA1 hA2)
    try simp only[Nat.zero_add] at g0 g1
    have hts:(strB (tmT (k,l))).toList=tmT (k,l):=strB_toList _
    obtain⟨TT,hTT⟩:∃y,tmT (k,l)=y:=⟨_,rfl⟩
    rw[hTT] at hp hts
    have HTT:=Lib.hid hTT
    clear hTT hsm hst hcn
    obtain⟨sl,hsl⟩:∃y,strB l=y:=⟨_,rfl⟩
    rw[hsl] at hm hp g1
    have HSL:=Lib.hid hsl
    clear hsl
    rcases hmm:tmMay (k,l) with _|_
    ·rw[hmm] at hm
     have HMM:=Lib.hid hmm
     clear hmm hp hts
     go_wp2_with fail
     refine (hm _).mono ?_
     rintro e w3 ⟨rfl,f3⟩
     have f4:=f2.trans (f3.mono f2.size)
     clear hm g0 g1 z0 z1
     go_wp2_with fail
     go_roundw
     case rel=>exact⟨i+1,by go_num,by omega,fun j hj=>HST.out j hj (fun h=>by rw[HMM.out] at h;cases h.1),f4⟩
     case measure=>simp[intOf];omega
    rw[hmm] at hm
    have HMM:=Lib.hid hmm
    clear hmm
    have bb0:=Nat.lt_of_lt_of_le hb f2.size
    by_cases he:TT=s
    ·have de:((strB TT).toList==ss.toList)=true:=by rw[strB_toList,HSS.out,he];simp
     have de2:(TT==ss.toList)=true:=by rw[HSS.out,he];simp
     have hfin:=HSM.out HMM.out (by rw[HTT.out];exact he)
     have HF:=Lib.hid hfin
     clear hfin hts he
     generalize strB TT=st at *
     go_wp2_with fail
     refine (hm _).mono ?_
     rintro e w3 ⟨rfl,f3⟩
     have f4:=f2.trans (f3.mono f2.size)
     have c0:=(f3.cell (p:=⟨w.heap.size+1,i*2,none⟩) bb0).trans g0
     have c1:=(f3.cell (p:=⟨w.heap.size+1,i*2+1,none⟩) bb0).trans g1
     clear hm g0 g1 z0 z1
     go_wp2_with fail
     refine (hp _).mono ?_
     rintro e w4 ⟨rfl,f5⟩
     have f6:=f4.trans (f5.mono f4.size)
     have F6:=F1.trans (f6.mono F1.size)
     have g0:=(f5.cell (p:=⟨w.heap.size+1,i*2,none⟩) (Nat.lt_of_lt_of_le bb0 f3.size)).trans c0
     have g1:=(f5.cell (p:=⟨w.heap.size+1,i*2+1,none⟩) (Nat.lt_of_lt_of_le bb0 f3.size)).trans c1
     have kc6:=kc.below f6 hbl
     clear c0 c1 hp
     have c0:=kc6.cell 0
     have c1:=kc6.cell 1
     have z0:=kc6.frozen 0
     have z1:=kc6.frozen 1
     simp only[List.getElem?_cons_zero,List.getElem?_cons_succ] at c0 c1
     have k9:=(kc6.set 0 (.int .i64 k)).set 1 (.string sl)
     have f9:=(F6.setCell (p:=⟨w.heap.size,0,none⟩) (Nat.le_refl _) (.int .i64 k)).setCell (p:=⟨w.heap.size,1,none⟩) (Nat.le_refl _) (.string sl)
     go_wp2_with fail
     refine bodyPost_ret (k9.sizedT rfl _ rfl Tryz.underlying42 HI.out) rfl ⟨?_,f9⟩
     rw[HF.out,←HSL.out]
     rfl
    have de:((strB TT).toList==ss.toList)=false:=by rw[strB_toList,HSS.out,beq_eq_false_iff_ne];exact he
    have de2:(TT==ss.toList)=false:=by rw[HSS.out,beq_eq_false_iff_ne];exact he
    have hfin:=fun h=>he (HTT.out.symm.trans h)
    have HF:=Lib.hid hfin
    clear hfin hts he
    generalize strB TT=st at *
    go_wp2_with fail
    refine (hm _).mono ?_
    rintro e w3 ⟨rfl,f3⟩
    have f4:=f2.trans (f3.mono f2.size)
    have c0:=(f3.cell (p:=⟨w.heap.size+1,i*2,none⟩) bb0).trans g0
    have c1:=(f3.cell (p:=⟨w.heap.size+1,i*2+1,none⟩) bb0).trans g1
    clear hm g0 g1 z0 z1
    go_wp2_with fail
    refine (hp _).mono ?_
    rintro e w4 ⟨rfl,f5⟩
    have f6:=f4.trans (f5.mono f4.size)
    clear c0 c1 hp
    go_wp2_with fail
    go_roundw
    case rel=>exact⟨i+1,by go_num,by omega,fun j hj=>HST.out j hj (fun h=>HF.out h.2),f6⟩
    case measure=>simp[intOf];omega
   have d5:decide ((i:Int)<(2:Int))=false:=by simp;omega
   have hin:i=2:=by omega
   have hfin:=HNO.out fun t ht h1=>by
    obtain⟨j,hj,rfl⟩:=List.mem_iff_getElem.1 ht
    exact hno j (by omega) hj h1
   have HF:=Lib.hid hfin
   clear hfin hno hin
   have y0:=kc2.frozen 0
   have y1:=kc2.frozen 1
   have k9:=(kc2.set 0 (.int .i64 0)).set 1 (.string ⟨#[]⟩)
   have f9:=(F2.setCell (p:=⟨w.heap.size,0,none⟩) (Nat.le_refl _) (.int .i64 0)).setCell (p:=⟨w.heap.size,1,none⟩) (Nat.le_refl _) (.string ⟨#[]⟩)
   go_wp2_with fail
   refine bodyPost_ret (k9.sizedT rfl _ rfl Tryz.underlying42 HI.out) rfl ⟨?_,f9⟩
   rw[HF.out]
   rfl
 obtain⟨N,hN⟩:∃N,s.length=N+1:=⟨s.length-1,by have:s.length≠0:=fun e=>h0 (List.eq_nil_of_length_eq_zero e);omega⟩
 have hsz:ss.size=N+1:=by rw[HZ.out];exact hN
 have d0:decide ((0:Int)<(ss.size:Int))=true:=by simp;omega
 have d1:0<ss.size:=by omega
 have hC:candC s=[(4,[]),(1,s)]++[(2,s.dropLast),(3,s.tail)]:=by unfold candC;rw[if_neg h0]
 have hx1:=HX 0 N
 have hx2:=HX 1 ss.size
 rw[List.drop_zero,Nat.sub_zero,show s.take N=s.dropLast from by rw[List.dropLast_eq_take,hN];rfl] at hx1
 rw[show s.drop 1=s.tail from by simp,List.take_of_length_le (by rw[List.length_tail];omega)] at hx2
 have hwN:IntKind.i64.wrap ((ss.size:Int)-1)=(N:Int):=by rw[IntWalk.i64_in _ (by omega)];omega
 have c0:(0:Int)≤(N:Int):=by omega
 have c1:(N:Int)≤(ss.size:Int):=by omega
 have c2:(1:Int)≤(ss.size:Int):=by omega
 clear hsz HX
 have k0:Blk (w.alloc (.cells #[.int .i64 0,.string ⟨#[]⟩] 42)) w.heap.size 42 [.int .i64 0,.string ⟨#[]⟩]:=Blk.newAt rfl _ _
 obtain⟨wa,hwa⟩:∃x,w.alloc (.cells #[.int .i64 0,.string ⟨#[]⟩] 42)=x:=⟨_,rfl⟩
 have f0:Below w.heap.size w wa:=by rw[←hwa];exact (Below.refl _ _).alloc (Nat.le_refl _) _
 have hga:wa.heap.size=w.heap.size+1:=by rw[←hwa];simp
 rw[hwa] at k0
 obtain⟨wb,hwb⟩:∃x,wa.alloc (.cells #[.int .i64 4,.string ⟨#[]⟩,.int .i64 1,.string ss] 42)=x:=⟨_,rfl⟩
 have k1:Blk wb (w.heap.size+1) 42 [.int .i64 4,.string ⟨#[]⟩,.int .i64 1,.string ss]:=by rw[←hwb,←hga];exact Blk.newAt rfl _ _
 have kb0:Blk wb w.heap.size 42 [.int .i64 0,.string ⟨#[]⟩]:=by rw[←hwb];exact k0.alloc _
 have fb:Below w.heap.size w wb:=by rw[←hwb];exact f0.alloc f0.size _
 have hgb:wb.heap.size=w.heap.size+1+1:=by rw[←hwb];simp[hga]
 obtain⟨dl,hdl⟩:∃x,s.dropLast=x:=⟨_,rfl⟩
 obtain⟨tl,htl⟩:∃x,s.tail=x:=⟨_,rfl⟩
 rw[hdl] at hx1 hC
 rw[htl] at hx2 hC
 obtain⟨wq,hwq⟩:∃x,(wb.drew).alloc (.cells #[.int .i64 2,.string (strB dl),.int .i64 3,.string (strB tl)] 42)=x:=⟨_,rfl⟩
 have hgd:wb.drew.heap.size=w.heap.size+1+1:=hgb
 have k2:Blk wq (w.heap.size+1+1) 42 [.int .i64 2,.string (strB dl),.int .i64 3,.string (strB tl)]:=by rw[←hwq,←hgd];exact Blk.newAt rfl _ _
 have o1:=two_own (u:=wq) (base:=w.heap.size+1) (a:=(4,[])) (b:=(1,s)) (g:=w.heap.size+1) (by unfold tmC;rw[HS2.out,←hwq];exact Blk.alloc (w:=wb.drew) k1 _) (Nat.le_refl _)
 have r2:=two_rd (w:=w) (u:=wq) (a:=(2,dl)) (b:=(3,tl)) (g:=w.heap.size+1+1) (by unfold tmC;exact k2) k2.lt
 have kq0:Blk wq w.heap.size 42 [.int .i64 0,.string ⟨#[]⟩]:=by rw[←hwq];exact Blk.alloc (w:=wb.drew) kb0 _
 have fq:Below w.heap.size w wq:=by rw[←hwq];exact fb.drew.alloc fb.size _
 obtain⟨A,c,wc,hrun,o2,hgr⟩:=run_appendRow ZTm tmC_len tmC_one 43 o1 r2 2 (by omega) (by simp[maxLen]) (by have:=k2.lt;omega)
 have hrow:=o2.rd tmC_len
 rw[←hC] at hrow
 have kc:Blk wc w.heap.size 42 [.int .i64 0,.string ⟨#[]⟩]:=(hgr.block _ kq0.lt (by intro e;injection e with e;have e:w.heap.size=w.heap.size+1:=e;omega)).trans kq0
 have F1:Below w.heap.size w wc:=fq.grown hgr (by have:=fq.size;omega) (fun k hk=>by injection hk with hk;have hk:w.heap.size+1=k:=hk;omega)
 rw[show 2+2=4 from rfl] at hrun hrow
 clear k0 k1 k2 kb0 kq0 fb fq f0 o1 r2 o2 hgr hC hgd hN hdl htl
 go_enter Tryz.func98,Tryz.ntmps98
 go_upto_region 3 with fail
 have hS:PaR wb:=trivial
 refine wp_region_order PaR 100 [(0,0),(1,0),(2,0),(3,0),(4,0),(5,0),(6,0),(7,0),(8,0),(9,0),(10,1),(11,1),(12,0)] (by kernel_rfl) (by kernel_rfl) ?_
 simp only[pick,List.filterMap_cons,List.filterMap_nil,List.getElem?_cons_zero,List.getElem?_cons_succ,Option.map_some]
 replace hS:PaR wb.drew:=hS
 iterate 10 (refine wpF_take (v:=?_) hS rfl ?_ (fun _ _ _ h=>h) ?_;rotate_left;(· intro w' hS';obtain _:=hS';go_simp<;>rfl);go_simp)
 refine wpF_only rfl (fun K hK=>?_)
 go_wp2_with fail
 first|refine⟨hS,?_⟩|refine⟨fun _=>hS,?_⟩|skip
 refine wpF_only rfl (fun K hK=>?_)
 refine wp_append_run rfl rfl rfl hrun ?_
 clear hrun
 go_wp2_with fail
 first|refine⟨fun _=>trivial,?_⟩|refine⟨trivial,?_⟩|skip
 replace hS:PaR wc:=trivial
 (refine wpF_take (v:=?_) hS rfl ?_ (fun _ _ _ h=>h) ?_;rotate_left;(· intro w' hS';obtain _:=hS';go_simp<;>rfl);go_simp)
 refine wpF_nil ?_
 clear hS
 have HR:=Lib.hid hrow
 have HNO:=Lib.hid (fun h=>cand_none (s:=s) h)
 have HCL:=Lib.hid (cand_len (s:=s))
 have hbl:=kc.lt
 go_wp2_with fail
 go_loopw [5] (fun v5 wr=>∃i:Nat,v5=.int .i64 (i:Int)∧i≤4∧(∀j,j<i→∀(hj:j<(candC s).length),tmMay (candC s)[j]=true→tmT (candC s)[j]≠s)∧Below wc.heap.size wc wr) (fun v5 _=>4-(intOf v5).toNat)
 case atStart=>exact⟨0,rfl,by omega,fun j hj=>absurd hj (by omega),Below.refl _ _⟩
 case round =>
  obtain⟨i,rfl,hi,hno,f2⟩:=hrel
  have F2:=F1.trans (f2.mono F1.size)
  have kc2:=kc.below f2 hbl
  have z0:=kc2.cell 0
  have z1:=kc2.cell 1
  simp only[List.getElem?_cons_zero,List.getElem?_cons_succ] at z0 z1
  have hcn:=HR.out.1
  by_cases hlt:i<4
  ·have d5:decide ((i:Int)<(4:Int))=true:=by simp;omega
   have b1:(0:Int)≤(i:Int):=by omega
   have b2:(i:Int)<(4:Int):=by omega
   have hic:i<(candC s).length:=by omega
   obtain⟨b,off,hA,hb,hcell⟩:=HR.out.2 (by omega)
   have g0:=(f2.cell (p:=⟨b,off+i*2+0,none⟩) hb).trans (hcell i hic 0 _ rfl)
   have g1:=(f2.cell (p:=⟨b,off+i*2+1,none⟩) hb).trans (hcell i hic 1 _ rfl)
   rw[Nat.add_zero] at g0
   clear hcell
   have hlen:=HCL.out _ (List.getElem_mem hic)
   have hsm:=cand_some (s:=s) (t:=(candC s)[i])
   have hst:∀j,j<i+1→(¬(tmMay (candC s)[i]=true∧tmT (candC s)[i]=s))→∀(hj:j<(candC s).length),tmMay (candC s)[j]=true→tmT (candC s)[j]≠s:=fun j hj hx hjl h1 h2=>by
    by_cases e:j=i
    ·subst e;exact hx ⟨h1,h2⟩
    exact hno j (by omega) hjl h1 h2
   obtain⟨x,hx⟩:∃x,(candC s)[i]=x:=⟨_,rfl⟩
   rw[hx] at hlen hsm hst
   replace g0:wr.cell? ⟨b,off+i*2,none⟩=some (.int .i64 x.1):=by rw[←hx];exact g0
   replace g1:wr.cell? ⟨b,off+i*2+1,none⟩=some (.string (strB x.2)):=by rw[←hx];exact g1
   clear hx hno
   obtain⟨k,l⟩:=x
   simp only at g0 g1 hlen
   have hm:=fun u=>rtMay_any k l u (by omega)
   have hp:=fun u=>rTm_any k l u (by omega)
   have HST:=Lib.hid hst;have HSM:=Lib.hid hsm
   first|subst hA|(injection hA with hA;injection hA with hA1 hA2;subst hA1 hA2)
   try simp only[Nat.zero_add] at g0 g1
   have hts:(strB (tmT (k,l))).toList=tmT (k,l):=strB_toList _
   obtain⟨TT,hTT⟩:∃y,tmT (k,l)=y:=⟨_,rfl⟩
   rw[hTT] at hp hts
   have HTT:=Lib.hid hTT
   clear hTT hsm hst hcn
   obtain⟨sl,hsl⟩:∃y,strB l=y:=⟨_,rfl⟩
   rw[hsl] at hm hp g1
   have HSL:=Lib.hid hsl
   clear hsl
   rcases hmm:tmMay (k,l) with _|_
   ·rw[hmm] at hm
    have HMM:=Lib.hid hmm
    clear hmm hp hts
    go_wp2_with fail
    refine (hm _).mono ?_
    rintro e w3 ⟨rfl,f3⟩
    have f4:=f2.trans (f3.mono f2.size)
    clear hm g0 g1 z0 z1
    go_wp2_with fail
    go_roundw
    case rel=>exact⟨i+1,by go_num,by omega,fun j hj=>HST.out j hj (fun h=>by rw[HMM.out] at h;cases h.1),f4⟩
    case measure=>simp[intOf];omega
   rw[hmm] at hm
   have HMM:=Lib.hid hmm
   clear hmm
   have bb0:=Nat.lt_of_lt_of_le hb f2.size
   by_cases he:TT=s
   ·have de:((strB TT).toList==ss.toList)=true:=by rw[strB_toList,HSS.out,he];simp
    have de2:(TT==ss.toList)=true:=by rw[HSS.out,he];simp
    have hfin:=HSM.out HMM.out (by rw[HTT.out];exact he)
    have HF:=Lib.hid hfin
    clear hfin hts he
    generalize strB TT=st at *
    go_wp2_with fail
    refine (hm _).mono ?_
    rintro e w3 ⟨rfl,f3⟩
    have f4:=f2.trans (f3.mono f2.size)
    have c0:=(f3.cell (p:=⟨b,off+i*2,none⟩) bb0).trans g0
    have c1:=(f3.cell (p:=⟨b,off+i*2+1,none⟩) bb0).trans g1
    clear hm g0 g1 z0 z1
    go_wp2_with fail
    refine (hp _).mono ?_
    rintro e w4 ⟨rfl,f5⟩
    have f6:=f4.trans (f5.mono f4.size)
    have F6:=F1.trans (f6.mono F1.size)
    have g0:=(f5.cell (p:=⟨b,off+i*2,none⟩) (Nat.lt_of_lt_of_le bb0 f3.size)).trans c0
    have g1:=(f5.cell (p:=⟨b,off+i*2+1,none⟩) (Nat.lt_of_lt_of_le bb0 f3.size)).trans c1
    have kc6:=kc.below f6 hbl
    clear c0 c1 hp
    have c0:=kc6.cell 0
    have c1:=kc6.cell 1
    have z0:=kc6.frozen 0
    have z1:=kc6.frozen 1
    simp only[List.getElem?_cons_zero,List.getElem?_cons_succ] at c0 c1
    have k9:=(kc6.set 0 (.int .i64 k)).set 1 (.string sl)
    have f9:=(F6.setCell (p:=⟨w.heap.size,0,none⟩) (Nat.le_refl _) (.int .i64 k)).setCell (p:=⟨w.heap.size,1,none⟩) (Nat.le_refl _) (.string sl)
    go_wp2_with fail
    refine bodyPost_ret (k9.sizedT rfl _ rfl Tryz.underlying42 HI.out) rfl ⟨?_,f9⟩
    rw[HF.out,←HSL.out]
    rfl
   have de:((strB TT).toList==ss.toList)=false:=by rw[strB_toList,HSS.out,beq_eq_false_iff_ne];exact he
   have de2:(TT==ss.toList)=false:=by rw[HSS.out,beq_eq_false_iff_ne];exact he
   have hfin:=fun h=>he (HTT.out.symm.trans h)
   have HF:=Lib.hid hfin
   clear hfin hts he
   generalize strB TT=st at *
   go_wp2_with fail
   refine (hm _).mono ?_
   rintro e w3 ⟨rfl,f3⟩
   have f4:=f2.trans (f3.mono f2.size)
   have c0:=(f3.cell (p:=⟨b,off+i*2,none⟩) bb0).trans g0
   have c1:=(f3.cell (p:=⟨b,off+i*2+1,none⟩) bb0).trans g1
   clear hm g0 g1 z0 z1
   go_wp2_with fail
   refine (hp _).mono ?_
   rintro e w4 ⟨rfl,f5⟩
   have f6:=f4.trans (f5.mono f4.size)
   clear c0 c1 hp
   go_wp2_with fail
   go_roundw
   case rel=>exact⟨i+1,by go_num,by omega,fun j hj=>HST.out j hj (fun h=>HF.out h.2),f6⟩
   case measure=>simp[intOf];omega
  have d5:decide ((i:Int)<(4:Int))=false:=by simp;omega
  have hin:i=4:=by omega
  have hfin:=HNO.out fun t ht h1=>by
   obtain⟨j,hj,rfl⟩:=List.mem_iff_getElem.1 ht
   exact hno j (by omega) hj h1
  have HF:=Lib.hid hfin
  clear hfin hno hin
  have y0:=kc2.frozen 0
  have y1:=kc2.frozen 1
  have k9:=(kc2.set 0 (.int .i64 0)).set 1 (.string ⟨#[]⟩)
  have f9:=(F2.setCell (p:=⟨w.heap.size,0,none⟩) (Nat.le_refl _) (.int .i64 0)).setCell (p:=⟨w.heap.size,1,none⟩) (Nat.le_refl _) (.string ⟨#[]⟩)
  go_wp2_with fail
  refine bodyPost_ret (k9.sizedT rfl _ rfl Tryz.underlying42 HI.out) rfl ⟨?_,f9⟩
  rw[HF.out]
  rfl
theorem mapO_take{α β:Type}{f:α→Option β}{l:List α}{L:List β}{i:Nat}(hi:i<l.length)(h:mapO f (l.take i)=some L):(∀y,f l[i]=some y→mapO f (l.take (i+1))=some (L++[y]))∧(f l[i]=none→mapO f l=none):=by
 have key:∀(a b:List α)(L:List β),mapO f a=some L→mapO f (a++b)=match mapO f b with|none=>none|some M=>some (L++M):=by
  intro a
  induction a with
  | nil =>
   intro b L h
   injection h with h
   subst h
   rw[List.nil_append]
   rcases mapO f b with _|M<;>rfl
  | cons x a ih =>
   intro b L h
   rw[List.cons_append]
   have e:∀l,mapO f (x::l)=match f x with|none=>none|some y=>match mapO f l with|none=>none|some r=>some (y::r):=fun _=>rfl
   rw[e] at h ⊢
   rcases hx:f x with _|y
   ·rw[hx] at h;cases h
   rw[hx] at h
   simp only at h ⊢
   rcases ha:mapO f a with _|r
   ·rw[ha] at h;cases h
   rw[ha] at h
   simp only at h
   injection h with h
   subst h
   rw[ih b r ha]
   rcases mapO f b with _|M<;>rfl
 refine⟨fun y hy=>?_,fun hn=>?_⟩
 ·rw[←List.take_append_getElem hi,key _ _ L h]
  simp[mapO,hy]
 rw[←List.take_append_drop i l,key _ _ L h,List.drop_eq_getElem_cons hi]
 simp[mapO,hn]
theorem one_rd{u:World}{g t:Nat}{a:Tm}(k:Blk u g t (tmC a))(hg:g<u.heap.size):RdR tmC 2 u u.heap.size (some ⟨g,0,none⟩) 1 [a]:=by
 refine⟨rfl,fun _=>⟨g,0,rfl,hg,fun j hj i v hv=>?_⟩⟩
 have hj0:j=0:=by simp at hj;exact hj
 subst hj0
 rw[Nat.zero_mul,Nat.zero_add,k.cell]
 exact hv
def TermsP(o:Option (List Tm))(w:World)(e:Ending)(w':World):Prop:=Below w.heap.size w w'∧match o with
 | none=>e=.returned (.tuple #[.slice none 0 0,.bool false])
 | some L=>∃A c,e=.returned (.tuple #[.slice A L.length c,.bool true])∧OwnR tmC 2 w' w.heap.size 42 (.slice A L.length c) L
set_option maxRecDepth 100000 in
set_option maxHeartbeats 8000000 in
theorem rTermsOf_any(s:List UInt8)(hl:s.length≤1000000)(w:World):Calls Tryz.prog 60 #[.string (strB s)] w fun e w'=>TermsP (mapO readTm (spl 44 s)) w e w':=by
 have hcut:=rCut_any s 44 hl w
 have hlen:=spl_len 44 s
 have hml:=spl_mem_len 44 s
 obtain⟨P,hP⟩:∃P,spl 44 s=P:=⟨_,rfl⟩
 rw[hP] at hcut hlen hml ⊢
 clear hP
 rw[show ((44:UInt8).toNat:Int)=44 from rfl] at hcut
 generalize strB s=ss at *
 go_enter Tryz.func60,Tryz.ntmps60
 go_wp2_with fail
 refine hcut.mono ?_
 rintro e w1 ⟨Ap,np,cp,rfl,hown,f1⟩
 have hrow:=hown.rd sC_len
 clear hown
 have hnp:=hrow.1
 have HR:=Lib.hid hrow;have HML:=Lib.hid hml
 clear hcut hrow hml
 go_wp2_with fail
 go_loopw [6,4] (fun v6 v4 wr=>∃(i n:Nat)(A:Option Addr)(c:Nat)(L:List Tm),v6=.int .i64 (i:Int)∧i≤np∧v4=.slice A n c∧L.length=n∧n=i∧mapO readTm (P.take i)=some L∧OwnR tmC 2 wr w1.heap.size 42 (.slice A n c) L∧Below w1.heap.size w1 wr) (fun v6 _ _=>np-(intOf v6).toNat)
 case atStart=>exact⟨0,0,none,0,[],rfl,by omega,rfl,rfl,rfl,rfl,OwnR.nil,Below.refl _ _⟩
 case round =>
  obtain⟨i,n,A,c,L,rfl,hi,rfl,hLn,hni,hmp,o1,f2⟩:=hrel
  have hcap:=o1.cap
  by_cases hlt:i<np
  ·have d5:decide ((i:Int)<(np:Int))=true:=by simp;omega
   have b1:(0:Int)≤(i:Int):=by omega
   have b2:(i:Int)<(np:Int):=by omega
   have hiP:i<P.length:=by omega
   obtain⟨b,off,rfl,hb,hcell⟩:=HR.out.2 (by omega)
   have g0:=(f2.cell (p:=⟨b,off+i*1+0,none⟩) hb).trans (hcell i hiP 0 _ rfl)
   rw[Nat.add_zero,Nat.mul_one] at g0
   have hxl:=HML.out _ (List.getElem_mem hiP)
   have hst:=mapO_take hiP hmp
   obtain⟨x,hx⟩:∃x,P[i]=x:=⟨_,rfl⟩
   rw[hx] at hxl hst
   replace g0:wr.cell? ⟨b,off+i,none⟩=some (.string (strB x)):=by rw[←hx];exact g0
   clear hx hcell
   have hcl:=rTmP_any x (by omega) wr
   obtain⟨h1,h2⟩:=hst
   have H1:=Lib.hid h1;have H2:=Lib.hid h2
   have hn6:n≤1000001:=by omega
   have HNI:=Lib.hid hni
   clear h1 h2 hmp hni
   generalize strB x=sx at *
   rcases hr:readTm x with _|t
   ·rw[hr] at hcl
    have hn:=H2.out hr
    have HN:=Lib.hid hn
    clear hn hr
    unfold tmAns at hcl
    go_wp2_with fail
    refine hcl.mono ?_
    rintro e w2 ⟨rfl,f3⟩
    have f4:=f2.trans (f3.mono f2.size)
    clear g0 hcl
    go_wp2_with fail
    go_ret2
    refine⟨f1.trans ((f4.alloc f4.size _).mono f1.size),?_⟩
    rw[HN.out]
    rfl
   rw[hr] at hcl
   have hn:=H1.out t hr
   have HN:=Lib.hid hn
   clear hn hr
   obtain⟨tk,tl⟩:=t
   unfold tmAns at hcl
   simp only at hcl
   obtain⟨sl,hsl⟩:∃y,strB tl=y:=⟨_,rfl⟩
   rw[hsl] at hcl
   have HSL:=Lib.hid hsl
   clear hsl
   go_wp2_with fail
   refine hcl.mono ?_
   rintro e w2 ⟨rfl,f3⟩
   have f4:=f2.trans (f3.mono f2.size)
   obtain⟨w3,hw3⟩:∃y,w2.alloc (.cells #[.int .i64 tk,.string sl] 42)=y:=⟨_,rfl⟩
   obtain⟨w4,hw4⟩:∃y,w3.alloc (.cells #[.int .i64 tk,.string sl] 42)=y:=⟨_,rfl⟩
   have f5:Below w1.heap.size w1 w4:=by rw[←hw4,←hw3];exact (f4.alloc f4.size _).alloc (by have:=f4.size;simp;omega) _
   have fo:Below wr.heap.size wr w4:=by rw[←hw4,←hw3];exact (f3.alloc f3.size _).alloc (by have:=f3.size;simp;omega) _
   have k3:Blk w3 w2.heap.size 42 [.int .i64 tk,.string sl]:=by rw[←hw3];exact Blk.newAt rfl _ _
   have k4:Blk w4 w3.heap.size 42 (tmC (tk,tl)):=by unfold tmC;rw[HSL.out,←hw4];exact Blk.newAt rfl _ _
   have c0:=k3.cell 0
   have c1:=k3.cell 1
   simp only[List.getElem?_cons_zero,List.getElem?_cons_succ] at c0 c1
   have o4:=o1.below (Nat.le_refl _) fo
   have r4:=one_rd k4 k4.lt
   clear g0 hcl f3 k3 k4 fo o1
   go_wp2_with (first|(at_builtin;go_must (refine appendRow ZTm tmC_len tmC_one rfl rfl rfl o4 rfl r4 (by omega) (by simp only[maxLen];omega) f5 (Nat.le_refl _) ?_);intro A5 c5 w5 o5 f6 g5))
   clear g5 o4 r4 f5 f4
   go_roundw
   case rel=>exact⟨i+1,n+1,A5,c5,L++[(tk,tl)],by go_num,by omega,rfl,by rw[List.length_append];simp;omega,by have:=HNI.out;omega,HN.out,o5,f6⟩
   case measure=>simp[intOf];omega
  have d5:decide ((i:Int)<(np:Int))=false:=by simp;omega
  have hin:i=P.length:=by omega
  rw[hin,List.take_length] at hmp
  have HMP:=Lib.hid hmp
  clear hmp
  have o2:=o1.base_le f1.size
  go_wp2_with fail
  go_ret2
  refine⟨f1.trans (f2.mono f1.size),?_⟩
  rw[HMP.out]
  exact⟨A,c,by rw[hLn];rfl,by rw[hLn];exact o2⟩
set_option maxRecDepth 100000 in
theorem run_make_str(n:Nat)(hn:n≤1000)(w:World) :
  (Instr.makeSlice 69 (.int .i64 (n:Int)) (.int .i64 (n:Int))).run Tryz.prog w=.ok (.slice (some ⟨w.heap.size,0,none⟩) n n) (w.alloc (.cells (Array.replicate n (Value.string ⟨#[]⟩)) 9)):=by
 obtain⟨i,hi,hz0,hz1,hz2⟩:=info_parts TS.info
 have h:=run_make (P:=Tryz.prog) w 69 9 i (.string ByteArray.empty) TS.sl hi hz0 .i64 .i64 n n (by omega) (by omega) (by rw[hz2];omega) (by omega)
 simp only[Int.toNat_natCast,hz1,Nat.mul_one] at h
 rw[h]
 congr 3
 simp only[madeCells]
 apply Array.ext
 ·simp[Value.cells]
 intro j h1 h2
 simp[Value.cells,Nat.mod_one]
 rfl
def strC(L:List (List UInt8)):List Value:=L.map fun x=>.string (strB x)
def rowO(keys:List (List UInt8))(ws:List (List UInt8)):List (List UInt8)×List (List UInt8):=keys.foldl (fun s k=>(s.1++[(pickO k s.2).1],(pickO k s.2).2)) ([],ws)
theorem rowO_next{keys:List (List UInt8)}{ws:List (List UInt8)}{i:Nat}(h:i<keys.length):rowO (keys.take (i+1)) ws=((rowO (keys.take i) ws).1++[(pickO keys[i] (rowO (keys.take i) ws).2).1],(pickO keys[i] (rowO (keys.take i) ws).2).2):=by
 unfold rowO
 rw[←List.take_append_getElem h,List.foldl_append]
 rfl
def RwP15(word:List UInt8)(keys ws:List (List UInt8))(w:World)(e:Ending)(w':World):Prop:=Below w.heap.size w w' ∧
 ((ws.head?≠some word∧e=.returned (.tuple #[.slice none 0 0,.bool false])) ∨
  (ws.head?=some word∧∃g,e=.returned (.tuple #[.slice (some ⟨g,0,none⟩) keys.length keys.length,.bool (decide ((rowO keys ws.tail).2=[]))])∧w.heap.size≤g∧Blk w' g 9 (strC (rowO keys ws.tail).1)))
theorem set_rep{α:Type}{L:List α}{i n:Nat}{z v:α}(hL:L.length=i)(hi:i<n):(L++List.replicate (n-i) z).set i v=L++[v]++List.replicate (n-(i+1)) z:=by
 rw[List.set_append,if_neg (by omega),hL,Nat.sub_self,show n-i=(n-(i+1))+1 by omega,List.replicate_succ,List.set_cons_zero]
 simp
theorem add_rep{α:Type}{L:List α}{i n:Nat}{z:α}(hi:i<n):L++List.replicate (n-i) z=L++[z]++List.replicate (n-(i+1)) z:=by
 rw[show n-i=(n-(i+1))+1 by omega,List.replicate_succ]
 simp
theorem drop_two{ws:List (List UInt8)}{a:Nat}(h:a+1<ws.length):ws.drop a=ws[a]::ws[a+1]::ws.drop (a+2):=by
 rw[List.drop_eq_getElem_cons (by omega),List.drop_eq_getElem_cons h]
theorem pick_short{k:List UInt8}{r:List (List UInt8)}(h:r.length≤1):pickO k r=([],r):=by
 rcases r with _|⟨x,_|⟨y,r⟩⟩
 ·rfl
 ·rfl
 simp at h
theorem pick_hit{k v:List UInt8}{r:List (List UInt8)}(h:v≠[]):pickO k (k::v::r)=(v,r):=by simp[pickO,h]
theorem pick_miss{k x v:List UInt8}{r:List (List UInt8)}(h:¬(x=k∧v≠[])):pickO k (x::v::r)=([],x::v::r):=by unfold pickO;simp only;rw[if_neg h]
set_option maxRecDepth 100000 in
set_option maxHeartbeats 8000000 in
theorem rRow_any(A:Option Addr)(n c:Nat)(ws:List (List UInt8))(word:List UInt8)(A2:Option Addr)(nk ck:Nat)(keys:List (List UInt8))(w:World)(h:RdR sC 1 w w.heap.size A n ws)(hn:n≤1000001)(h':RdR sC 1 w w.heap.size A2 nk keys)(hk:nk≤1000) :
  Calls Tryz.prog 96 #[.slice A n c,.string (strB word),.slice A2 nk ck] w fun e w'=>RwP15 word keys ws w e w':=by
 have hl:=h.1
 have hlk:=h'.1
 have hmk:=fun w=>run_make_str nk hk w
 have fm:=fun(w:World)=>(Below.refl w.heap.size w).alloc (Nat.le_refl _) (.cells (Array.replicate nk (Value.string ⟨#[]⟩)) 9)
 have H:=Lib.hid h;have H2:=Lib.hid h'
 clear h h'
 by_cases h0:n=0
 ·have d0:((n:Int)==0)=true:=by rw[beq_iff_eq];omega
  have hws:ws.head?≠some word:=by
   rw[List.eq_nil_of_length_eq_zero (hl.trans h0)]
   simp
  have HW:=Lib.hid hws
  clear hws hl hlk h0
  generalize strB word=swd at *
  go_enter Tryz.func96,Tryz.ntmps96
  go_wp2_with fail
  go_ret2
  exact⟨fm w,.inl ⟨HW.out,rfl⟩⟩
 have d0:((n:Int)==0)=false:=by rw[beq_eq_false_iff_ne];omega
 obtain⟨h1,tl,rfl⟩:∃x r,ws=x::r:=List.exists_cons_of_ne_nil (fun e=>by rw[e] at hl;simp at hl;omega)
 obtain⟨b,off,rfl,hb,hcell⟩:=H.out.2 (by omega)
 have z0:=((fm w).cell (p:=⟨b,off+0*1+0,none⟩) hb).trans (hcell 0 (by simp) 0 _ rfl)
 simp only[Nat.zero_mul,Nat.add_zero,List.getElem_cons_zero] at z0
 have hq:=strB_beq h1 word
 have n1:0<n:=by omega
 have n2:(0:Int)<(n:Int):=by omega
 by_cases he:h1=word
 case neg =>
  have hq1:((strB h1).toList==(strB word).toList)=false:=by rw[hq];exact decide_eq_false he
  have hq2:((strB h1).toList !=(strB word).toList)=true:=by rw[bne,hq1];rfl
  have hws:(h1::tl).head?≠some word:=by simpa using he
  have HW:=Lib.hid hws
  clear hws hl hlk h0 hq he hcell
  have e0:(w.alloc (.cells (Array.replicate nk (Value.string ⟨#[]⟩)) 9)).cell? ⟨b,off,none⟩=some (.string (strB h1)):=z0
  generalize strB word=swd at *
  generalize strB h1=sh at *
  go_enter Tryz.func96,Tryz.ntmps96
  go_wp2_with fail
  go_ret2
  exact⟨fm w,.inl ⟨HW.out,rfl⟩⟩
 subst he
 obtain⟨wb,hwb⟩:∃x,w.alloc (.cells (Array.replicate nk (Value.string ⟨#[]⟩)) 9)=x:=⟨_,rfl⟩
 have k0:Blk wb w.heap.size 9 (List.replicate nk (Value.string ⟨#[]⟩)):=by
  rw[←hwb]
  have:=Blk.newAt (w:=w) rfl 9 (Array.replicate nk (Value.string ⟨#[]⟩))
  rwa [Array.toList_replicate] at this
 have f0:Below w.heap.size w wb:=by rw[←hwb];exact fm w
 rw[hwb] at z0
 have hq1:((strB h1).toList==(strB h1).toList)=true:=by simp
 have hq2:((strB h1).toList !=(strB h1).toList)=false:=by simp
 obtain⟨ws,hws⟩:∃x,h1::tl=x:=⟨_,rfl⟩
 have htl:ws.drop 1=tl:=by rw[←hws];rfl
 have hhd:ws.head?=some h1:=by rw[←hws];rfl
 have htl2:ws.tail=tl:=by rw[←hws];rfl
 rw[hws] at hl hcell H ⊢
 have HT1:=Lib.hid htl;have HHD:=Lib.hid hhd;have HT2:=Lib.hid htl2
 have hk0:strC (([]:List (List UInt8))++List.replicate (nk-0) [])=List.replicate nk (Value.string ⟨#[]⟩):=by
  unfold strC
  rw[List.nil_append,Nat.sub_zero,List.map_replicate]
  rfl
 have HK0:=Lib.hid hk0
 clear hws htl hhd htl2 fm hq hk0
 generalize strB h1=sh at *
 go_enter Tryz.func96,Tryz.ntmps96
 go_wp2_with fail
 clear hmk hwb
 go_loopw [10,9] (fun v10 v9 wr=>∃(i a:Nat)(O:List (List UInt8)),v10=.int .i64 (i:Int)∧i≤nk∧v9=.int .i64 (a:Int)∧1≤a∧a≤n∧rowO (keys.take i) tl=(O,ws.drop a)∧O.length=i∧Blk wr w.heap.size 9 (strC (O++List.replicate (nk-i) []))∧Below w.heap.size w wr) (fun v10 _ _=>nk-(intOf v10).toNat)
 case atStart=>exact⟨0,1,[],rfl,by omega,rfl,Nat.le_refl _,by omega,(by rw[HT1.out];rfl),rfl,(by rw[HK0.out];exact k0),f0⟩
 case round =>
  obtain⟨i,a,O,rfl,hi,rfl,h1a,han,hro,hO,kb,f2⟩:=hrel
  by_cases hlt:i<nk
  ·have d5:decide ((i:Int)<(nk:Int))=true:=by simp;omega
   have b1:(0:Int)≤(i:Int):=by omega
   have b2:(i:Int)<(nk:Int):=by omega
   have hik:i<keys.length:=by omega
   have hnx:=rowO_next (ws:=tl) hik
   rw[hro] at hnx
   simp only at hnx
   obtain⟨bk,offk,hA2,hbk,hck⟩:=H2.out.2 (by omega)
   have g0:=(f2.cell (p:=⟨bk,offk+i*1+0,none⟩) hbk).trans (hck i hik 0 _ rfl)
   obtain⟨k0,hk0⟩:∃k,keys[i]=k:=⟨_,rfl⟩
   rw[hk0] at hnx
   replace g0:wr.cell? ⟨bk,offk+i,none⟩=some (.string (strB k0)):=by rw[←hk0];simpa using g0
   clear hck hk0 hro
   subst hA2
   have w1:IntKind.i64.wrap ((a:Int)+1)=(a:Int)+1:=IntWalk.i64_in _ (by omega)
   have a0:(0:Int)≤(a:Int):=by omega
   by_cases hcs:a+1<n
   ·have e1:decide ((a:Int)+1<(n:Int))=true:=by simp;omega
    have e2:(a:Int)+1<(n:Int):=by omega
    have e3:(a:Int)<(n:Int):=by omega
    have e4:(0:Int)≤(a:Int)+1:=by omega
    have hx0:=(f2.cell (p:=⟨b,off+a*1+0,none⟩) hb).trans (hcell a (by omega) 0 _ rfl)
    have hv0:=(f2.cell (p:=⟨b,off+(a+1)*1+0,none⟩) hb).trans (hcell (a+1) (by omega) 0 _ rfl)
    have hdt:=drop_two (ws:=ws) (a:=a) (by omega)
    obtain⟨x,hx⟩:∃x,ws[a]=x:=⟨_,rfl⟩
    obtain⟨v,hv⟩:∃v,ws[a+1]=v:=⟨_,rfl⟩
    rw[hx,hv] at hdt
    replace hx0:wr.cell? ⟨b,off+a,none⟩=some (.string (strB x)):=by rw[←hx];simpa using hx0
    replace hv0:wr.cell? ⟨b,off+(a+1),none⟩=some (.string (strB v)):=by rw[←hv];simpa using hv0
    clear hx hv hcell
    have hq1:=strB_beq x k0
    have hq2:(strB v).toList.isEmpty=v.isEmpty:=by rw[strB_toList]
    by_cases hxk:x=k0
    ·by_cases hv0':v=[]
     ·have r1:((strB x).toList==(strB k0).toList)=true:=by rw[hq1];exact decide_eq_true hxk
      have r2:(strB v).toList.isEmpty=true:=by rw[hq2,hv0'];rfl
      have hpk:pickO k0 (ws.drop a)=([],ws.drop a):=by rw[hdt];exact pick_miss (fun h=>h.2 hv0')
      rw[hpk] at hnx
      have HNX:=Lib.hid hnx
      rw[add_rep (L:=O) (z:=([]:List UInt8)) hlt] at kb
      clear hnx hpk hq1 hq2 hdt
      generalize strB x=sx at *
      generalize strB v=sv at *
      generalize strB k0=sk at *
      go_upto_region 8 with fail
      go_quiet (fail)
      go_wp2_with fail
      go_roundw
      case rel=>exact⟨i+1,a,O++[[]],by go_num,by omega,rfl,h1a,han,HNX.out,by rw[List.length_append,hO];rfl,kb,⟨f2.os,f2.tape,f2.output,f2.size,f2.block⟩⟩
      case measure=>simp[intOf];omega
     have r1:((strB x).toList==(strB k0).toList)=true:=by rw[hq1];exact decide_eq_true hxk
     have r2:(strB v).toList.isEmpty=false:=by rw[hq2];simpa using hv0'
     have hpk:pickO k0 (ws.drop a)=(v,ws.drop (a+2)):=by rw[hdt,hxk];exact pick_hit hv0'
     rw[hpk] at hnx
     have HNX:=Lib.hid hnx
     have fz:=kb.frozen i
     have kc0:(strC (O++List.replicate (nk-i) []))[i]?=some (.string ⟨#[]⟩):=by
      unfold strC
      rw[List.getElem?_map,List.getElem?_append_right (by omega),hO,Nat.sub_self,List.getElem?_replicate,if_pos (by omega)]
      rfl
     have xc:=(kb.cell i).trans kc0
     have kb2:=kb.set i (.string (strB v))
     have hset:(strC (O++List.replicate (nk-i) [])).set i (.string (strB v))=strC (O++[v]++List.replicate (nk-(i+1)) []):=by
      unfold strC
      rw[←set_rep hO hlt,List.map_set]
     rw[hset] at kb2
     have w2:IntKind.i64.wrap ((a:Int)+2)=(a:Int)+2:=IntWalk.i64_in _ (by omega)
     clear hnx hpk hq1 hq2 hdt hset
     generalize strB x=sx at *
     generalize strB v=sv at *
     generalize strB k0=sk at *
     go_upto_region 8 with fail
     go_quiet (fail)
     go_wp2_with fail
     go_roundw
     case rel=>exact⟨i+1,a+2,O++[v],by go_num,by omega,by go_num,by omega,by omega,HNX.out,by rw[List.length_append,hO];rfl,kb2,(show Below w.heap.size w (wr.drewN nq) from ⟨f2.os,f2.tape,f2.output,f2.size,f2.block⟩).setCell (p:=⟨w.heap.size,i,none⟩) (Nat.le_refl _) _⟩
     case measure=>simp[intOf];omega
    have r1:((strB x).toList==(strB k0).toList)=false:=by rw[hq1];exact decide_eq_false hxk
    have hpk:pickO k0 (ws.drop a)=([],ws.drop a):=by rw[hdt];exact pick_miss (fun h=>hxk h.1)
    rw[hpk] at hnx
    have HNX:=Lib.hid hnx
    rw[add_rep (L:=O) (z:=([]:List UInt8)) hlt] at kb
    clear hnx hpk hq1 hq2 hdt
    generalize strB x=sx at *
    generalize strB v=sv at *
    generalize strB k0=sk at *
    go_upto_region 8 with fail
    go_quiet (fail)
    go_wp2_with fail
    go_roundw
    case rel=>exact⟨i+1,a,O++[[]],by go_num,by omega,rfl,h1a,han,HNX.out,by rw[List.length_append,hO];rfl,kb,⟨f2.os,f2.tape,f2.output,f2.size,f2.block⟩⟩
    case measure=>simp[intOf];omega
   have e1:decide ((a:Int)+1<(n:Int))=false:=by simp;omega
   have e2:¬(a:Int)+1<(n:Int):=by omega
   have hpk:pickO k0 (ws.drop a)=([],ws.drop a):=pick_short (by rw[List.length_drop];omega)
   clear hcell
   rw[hpk] at hnx
   have HNX:=Lib.hid hnx
   rw[add_rep (L:=O) (z:=([]:List UInt8)) hlt] at kb
   clear hnx hpk
   generalize strB k0=sk at *
   go_upto_region 8 with fail
   go_quiet (fail)
   go_wp2_with fail
   go_roundw
   case rel=>exact⟨i+1,a,O++[[]],by go_num,by omega,rfl,h1a,han,HNX.out,by rw[List.length_append,hO];rfl,kb,⟨f2.os,f2.tape,f2.output,f2.size,f2.block⟩⟩
   case measure=>simp[intOf];omega
  have d5:decide ((i:Int)<(nk:Int))=false:=by simp;omega
  have hin:i=nk:=by omega
  rw[hin,←hlk,List.take_length] at hro
  rw[hin,hlk.symm,Nat.sub_self,List.replicate_zero,List.append_nil] at kb
  have hlast:((a:Int)==(n:Int))=decide ((rowO keys tl).2=[]):=by
   rw[hro]
   have:(ws.drop a=[])↔a=n:=by rw[List.drop_eq_nil_iff];omega
   simp only[this]
   rw[Bool.eq_iff_iff]
   simp
   omega
  have HRO:=Lib.hid hro
  have HLK:=Lib.hid hlk
  obtain⟨q,hqq⟩:∃q,decide ((rowO keys tl).2=[])=q:=⟨_,rfl⟩
  rw[hqq] at hlast
  have HQQ:=Lib.hid hqq
  clear hro hin hqq
  go_wp2_with fail
  go_ret2
  refine⟨f2,.inr ⟨HHD.out,w.heap.size,?_,Nat.le_refl _,?_⟩⟩
  ·rw[HT2.out,HQQ.out,HLK.out]
   rfl
  rw[HT2.out,HRO.out]
  exact kb
theorem RdR.cut{w:World}{B b off n:Nat}{x:List UInt8}{ws:List (List UInt8)}(h:RdR sC 1 w B (some ⟨b,off,none⟩) n (x::ws)):RdR sC 1 w B (some ⟨b,off+1,none⟩) (n-1) ws:=by
 refine⟨by have:=h.1;rw[List.length_cons] at this;omega,fun hn=>?_⟩
 obtain⟨b',off',e,hb,hc⟩:=h.2 (by omega)
 injection e with e
 injection e with e1 e2
 subst e1 e2
 refine⟨b,off+1,rfl,hb,fun j hj i v hv=>?_⟩
 have:=hc (j+1) (by simpa using hj) i v (by simpa using hv)
 rw[show off+(j+1)*1+i=off+1+j*1+i from by omega] at this
 exact this
theorem RdR.one{w:World}{B b off n:Nat}{x:List UInt8}{ws:List (List UInt8)}(h:RdR sC 1 w B (some ⟨b,off,none⟩) n (x::ws)):b<B∧w.cell? ⟨b,off,none⟩=some (.string (strB x)):=by
 obtain⟨b',off',e,hb,hc⟩:=h.2 (by have:=h.1;rw[List.length_cons] at this;omega)
 injection e with e
 injection e with e1 e2
 subst e1 e2
 have h0:=hc 0 (by simp) 0 _ rfl
 rw[Nat.zero_mul,Nat.add_zero] at h0
 exact⟨hb,h0⟩
theorem RdR.ad{w:World}{B n:Nat}{A:Option Addr}{x:List UInt8}{ws:List (List UInt8)}(h:RdR sC 1 w B A n (x::ws)):∃b off,A=some ⟨b,off,none⟩∧n=ws.length+1:=by
 have hl:=h.1
 rw[List.length_cons] at hl
 obtain⟨b,off,e,_⟩:=h.2 (by omega)
 exact⟨b,off,e,by omega⟩
theorem ns_hit{r:List (List UInt8)}(h:(nsW r).1.isEmpty=false):∃y r2,r=wNs::y::r2∧nsW r=(y,r2):=by
 unfold nsW at h ⊢
 rcases r with _|⟨x,_|⟨y,r2⟩⟩
 ·cases h
 ·cases h
 unfold pickO at h ⊢
 simp only at h ⊢
 by_cases hc:x=wNs∧y≠[]
 ·rw[if_pos hc]
  exact⟨y,r2,by rw[hc.1],rfl⟩
 rw[if_neg hc] at h
 cases h
theorem ns_miss{r:List (List UInt8)}(h:(nsW r).1.isEmpty=true):nsW r=([],r):=by
 unfold nsW at h ⊢
 rcases r with _|⟨x,_|⟨y,r2⟩⟩
 ·rfl
 ·rfl
 unfold pickO at h ⊢
 simp only at h ⊢
 by_cases hc:x=wNs∧y≠[]
 ·rw[if_pos hc] at h
  exact absurd (List.isEmpty_iff.1 h) hc.2
 rw[if_neg hc]
theorem sv_no{x y:List UInt8}{r:List (List UInt8)}(h:x≠wService):svW (x::y::r)=some (0,x::y::r):=by unfold svW;simp only;rw[if_neg h]
theorem sv_yes{y:List UInt8}{r:List (List UInt8)}:svW (wService::y::r)=match numO y with|none=>none|some n=>if n=0 then none else some (n,r):=by
 unfold svW
 simp only
 rw[if_pos trivial]
 try (rcases numO y with _|n<;>rfl)
def RPolP(tl:List (List UInt8))(w:World)(e:Ending)(w':World):Prop:=Below w.heap.size w w'∧∃q:Po,q.rules=[]∧e=.returned (.tuple #[.agg #[.int .u64 (q.id:Int),.string (strB q.ns),.int .u64 (q.service:Int),.int .i64 q.deny,.slice none 0 0],.bool (policyW tl).isSome])∧∀p,policyW tl=some p→q=p
def zPo:List Value:=[.int .u64 0,.string ⟨#[]⟩,.int .u64 0,.int .i64 0,.slice none 0 0]
set_option maxRecDepth 100000 in
set_option maxHeartbeats 16000000 in
theorem rPol_any(A:Option Addr)(n c:Nat)(tl:List (List UInt8))(w:World)(h:RdR sC 1 w w.heap.size A n (wPolicy::tl))(hnc:n≤c)(hcm:c≤maxLen)(hn:n≤1000001)(hsh:∀x∈tl,x.length≤1000000) :
  Calls Tryz.prog 30 #[.slice A n c] w fun e w'=>RPolP tl w e w':=by
 have HI:=Lib.hid (show (Tryz.prog.info? 39).map (·.size)=some 5 by kernel_rfl)
 have hml:maxLen=9223372036854775807:=rfl
 rw[hml] at hcm
 clear hml
 obtain⟨wa,hwa⟩:∃x,w.alloc (.cells #[.int .u64 0,.string ⟨#[]⟩,.int .u64 0,.int .i64 0,.slice none 0 0] 39)=x:=⟨_,rfl⟩
 have hga:wa.heap.size=w.heap.size+1:=by rw[←hwa];simp
 have f0:Below w.heap.size w wa:=by rw[←hwa];exact (Below.refl _ _).alloc (Nat.le_refl _) _
 have k0:Blk wa w.heap.size 39 zPo:=by rw[←hwa];exact Blk.newAt rfl _ _
 obtain⟨wb,hwb⟩:∃x,wa.alloc (.cells #[.int .u64 0,.string ⟨#[]⟩,.int .u64 0,.int .i64 0,.slice none 0 0] 39)=x:=⟨_,rfl⟩
 have F0:Below w.heap.size w wb:=by rw[←hwb];exact f0.alloc f0.size _
 have kr:Blk wb w.heap.size 39 zPo:=by rw[←hwb];exact k0.alloc _
 have kp:Blk wb (w.heap.size+1) 39 zPo:=by rw[←hwb,←hga];exact Blk.newAt rfl _ _
 have hS:=h.below F0
 obtain⟨b,off,rfl,hm⟩:=h.ad
 obtain⟨hb,e0⟩:=hS.one
 have hS1:=hS.cut
 clear k0 f0 hS
 have hq0:((strB wPolicy).toList==[112,111,108,105,99,121])=true:=by rw[strB_toList];decide
 rcases tl with _|⟨a,_|⟨dy,r⟩⟩
 ·have HNO:=Lib.hid (show policyW []=none from rfl)
  have d0:decide ((n:Int)<3)=true:=by simp;simp at hm;omega
  have d1:(n:Int)<3:=by simp at hm;omega
  clear hm
  go_enter Tryz.func30,Tryz.ntmps30
  obtain⟨c0,c1,c2,c3,c4⟩:_∧_∧_∧_∧_:=⟨kp.cell 0,kp.cell 1,kp.cell 2,kp.cell 3,kp.cell 4⟩
  obtain⟨r0,r1,r2,r3,r4⟩:_∧_∧_∧_∧_:=⟨kr.cell 0,kr.cell 1,kr.cell 2,kr.cell 3,kr.cell 4⟩
  obtain⟨z0,z1,z2,z3,z4⟩:_∧_∧_∧_∧_:=⟨kr.frozen 0,kr.frozen 1,kr.frozen 2,kr.frozen 3,kr.frozen 4⟩
  simp only[zPo,List.getElem?_cons_zero,List.getElem?_cons_succ] at c0 c1 c2 c3 c4 r0 r1 r2 r3 r4
  have k9:=((((kr.set 0 (.int .u64 0)).set 1 (.string ⟨#[]⟩)).set 2 (.int .u64 0)).set 3 (.int .i64 0)).set 4 (.slice none 0 0)
  have f9:=((((F0.setCell (p:=⟨w.heap.size,0,none⟩) (Nat.le_refl _) (.int .u64 0)).setCell (p:=⟨w.heap.size,1,none⟩) (Nat.le_refl _) (.string ⟨#[]⟩)).setCell (p:=⟨w.heap.size,2,none⟩) (Nat.le_refl _) (.int .u64 0)).setCell (p:=⟨w.heap.size,3,none⟩) (Nat.le_refl _) (.int .i64 0)).setCell (p:=⟨w.heap.size,4,none⟩) (Nat.le_refl _) (.slice none 0 0)
  go_wp2_with fail
  refine bodyPost_ret (k9.sizedT rfl _ rfl Tryz.underlying39 HI.out) rfl ⟨f9,⟨0,[],0,0,[]⟩,rfl,?_,?_⟩
  ·rw[HNO.out];rfl
  rw[HNO.out];intro p hp;cases hp
 ·have HNO:=Lib.hid (show policyW [a]=none from rfl)
  have d0:decide ((n:Int)<3)=true:=by simp;simp at hm;omega
  have d1:(n:Int)<3:=by simp at hm;omega
  clear hm
  go_enter Tryz.func30,Tryz.ntmps30
  obtain⟨c0,c1,c2,c3,c4⟩:_∧_∧_∧_∧_:=⟨kp.cell 0,kp.cell 1,kp.cell 2,kp.cell 3,kp.cell 4⟩
  obtain⟨r0,r1,r2,r3,r4⟩:_∧_∧_∧_∧_:=⟨kr.cell 0,kr.cell 1,kr.cell 2,kr.cell 3,kr.cell 4⟩
  obtain⟨z0,z1,z2,z3,z4⟩:_∧_∧_∧_∧_:=⟨kr.frozen 0,kr.frozen 1,kr.frozen 2,kr.frozen 3,kr.frozen 4⟩
  simp only[zPo,List.getElem?_cons_zero,List.getElem?_cons_succ] at c0 c1 c2 c3 c4 r0 r1 r2 r3 r4
  have k9:=((((kr.set 0 (.int .u64 0)).set 1 (.string ⟨#[]⟩)).set 2 (.int .u64 0)).set 3 (.int .i64 0)).set 4 (.slice none 0 0)
  have f9:=((((F0.setCell (p:=⟨w.heap.size,0,none⟩) (Nat.le_refl _) (.int .u64 0)).setCell (p:=⟨w.heap.size,1,none⟩) (Nat.le_refl _) (.string ⟨#[]⟩)).setCell (p:=⟨w.heap.size,2,none⟩) (Nat.le_refl _) (.int .u64 0)).setCell (p:=⟨w.heap.size,3,none⟩) (Nat.le_refl _) (.int .i64 0)).setCell (p:=⟨w.heap.size,4,none⟩) (Nat.le_refl _) (.slice none 0 0)
  go_wp2_with fail
  refine bodyPost_ret (k9.sizedT rfl _ rfl Tryz.underlying39 HI.out) rfl ⟨f9,⟨0,[],0,0,[]⟩,rfl,?_,?_⟩
  ·rw[HNO.out];rfl
  rw[HNO.out];intro p hp;cases hp
 have ha:=hsh a (by simp)
 have hnl:n=r.length+3:=by simp at hm;omega
 have d0:decide ((n:Int)<3)=false:=by simp;omega
 have d1:¬(n:Int)<3:=by omega
 have d2:(1:Int)<(n:Int):=by omega
 have d3:(2:Int)<(n:Int):=by omega
 have d4:(3:Int)≤(n:Int):=by omega
 have d5:(0:Int)<(n:Int):=by omega
 obtain⟨_,e1⟩:=hS1.one
 have hSw:=h.cut.cut.cut
 rw[show off+1+1+1=off+3 from rfl,show n-1-1-1=n-3 from by omega] at hSw
 have HSW:=Lib.hid hSw
 clear hSw h
 have hS2:=hS1.cut
 obtain⟨_,e2⟩:=hS2.one
 rw[show off+1+1=off+2 from rfl] at e2
 have hqa:((strB dy).toList==[97,108,108,111,119])=decide (dy=wAllow):=by
  have h:=strB_beq dy wAllow
  rw[strB_toList wAllow] at h
  exact h
 have hqd:((strB dy).toList==[100,101,110,121])=decide (dy=wDeny):=by
  have h:=strB_beq dy wDeny
  rw[strB_toList wDeny] at h
  exact h
 have hpw:policyW (a::dy::r)=if dy=wAllow∨dy=wDeny then (match numO a with
    | none=>none
    | some n=>match svW (nsW r).2 with
     | none=>none
     | some (sv,r4)=>if r4=[] then some ⟨n,(nsW r).1,sv,if dy=wDeny then 1 else 0,[]⟩ else none) else none:=rfl
 have hnum:=rNum_any a ha
 clear hS1 hS2 hm
 by_cases hdd:dy=wAllow∨dy=wDeny
 case neg =>
  rw[if_neg hdd] at hpw
  have HNO:=Lib.hid hpw
  rw[decide_eq_false (fun h=>hdd (.inl h))] at hqa
  rw[decide_eq_false (fun h=>hdd (.inr h))] at hqd
  clear hpw hdd hnum hnl hsh
  generalize strB dy=sdy at *
  generalize strB a=sa at *
  generalize strB wPolicy=sp at *
  go_enter Tryz.func30,Tryz.ntmps30
  obtain⟨c0,c1,c2,c3,c4⟩:_∧_∧_∧_∧_:=⟨kp.cell 0,kp.cell 1,kp.cell 2,kp.cell 3,kp.cell 4⟩
  obtain⟨r0,r1,r2,r3,r4⟩:_∧_∧_∧_∧_:=⟨kr.cell 0,kr.cell 1,kr.cell 2,kr.cell 3,kr.cell 4⟩
  obtain⟨z0,z1,z2,z3,z4⟩:_∧_∧_∧_∧_:=⟨kr.frozen 0,kr.frozen 1,kr.frozen 2,kr.frozen 3,kr.frozen 4⟩
  simp only[zPo,List.getElem?_cons_zero,List.getElem?_cons_succ] at c0 c1 c2 c3 c4 r0 r1 r2 r3 r4
  have k9:=((((kr.set 0 (.int .u64 0)).set 1 (.string ⟨#[]⟩)).set 2 (.int .u64 0)).set 3 (.int .i64 0)).set 4 (.slice none 0 0)
  have f9:=((((F0.setCell (p:=⟨w.heap.size,0,none⟩) (Nat.le_refl _) (.int .u64 0)).setCell (p:=⟨w.heap.size,1,none⟩) (Nat.le_refl _) (.string ⟨#[]⟩)).setCell (p:=⟨w.heap.size,2,none⟩) (Nat.le_refl _) (.int .u64 0)).setCell (p:=⟨w.heap.size,3,none⟩) (Nat.le_refl _) (.int .i64 0)).setCell (p:=⟨w.heap.size,4,none⟩) (Nat.le_refl _) (.slice none 0 0)
  go_wp2_with fail
  refine bodyPost_ret (k9.sizedT rfl _ rfl Tryz.underlying39 HI.out) rfl ⟨f9,⟨0,[],0,0,[]⟩,rfl,?_,?_⟩
  ·rw[HNO.out];rfl
  rw[HNO.out];intro p hp;cases hp
 rw[if_pos hdd] at hpw
 obtain⟨dn,hdn⟩:∃x,decide (dy=wDeny)=x:=⟨_,rfl⟩
 have hqa':((strB dy).toList==[97,108,108,111,119])= !dn:=by
  rw[hqa,←hdn]
  rcases hdd with h|h
  ·subst h;decide
  subst h;decide
 have hif:(if dy=wDeny then (1:Int) else 0)=if dn=true then 1 else 0:=by rw[←hdn];simp
 rw[hif] at hpw
 rw[hdn] at hqd
 have hnum1:=hnum wb
 unfold RNumP at hnum1
 obtain⟨o,ho⟩:∃o,numO a=o:=⟨_,rfl⟩
 rw[ho] at hnum1 hpw
 have HPW:=Lib.hid hpw
 clear hpw hdd hqa hdn hif ho hnum
 generalize strB dy=sdy at *
 generalize strB a=sa at *
 generalize strB wPolicy=sp at *
 have HSH:=Lib.hid hsh
 have HNL:=Lib.hid hnl
 clear hsh hnl
 go_enter Tryz.func30,Tryz.ntmps30
 rcases dn with _|_
 ·go_wp2_with fail
  refine hnum1.mono ?_
  rintro e w2 ⟨v,hv64,rfl,hvv,f2⟩
  have F2:=F0.trans (f2.mono F0.size)
  replace kp:=kp.below f2 kp.lt
  replace kr:=kr.below f2 kr.lt
  replace e0:=(f2.cell (p:=⟨b,off,none⟩) (World.block_lt_of_cell? wb _ e0)).trans e0
  replace e1:=(f2.cell (p:=⟨b,off+1,none⟩) (World.block_lt_of_cell? wb _ e1)).trans e1
  replace e2:=(f2.cell (p:=⟨b,off+2,none⟩) (World.block_lt_of_cell? wb _ e2)).trans e2
  clear hnum1 f2
  rcases o with _|n0
  ·have HNO:=Lib.hid HPW.out
   obtain⟨c0,c1,c2,c3,c4⟩:_∧_∧_∧_∧_:=⟨kp.cell 0,kp.cell 1,kp.cell 2,kp.cell 3,kp.cell 4⟩
   obtain⟨r0,r1,r2,r3,r4⟩:_∧_∧_∧_∧_:=⟨kr.cell 0,kr.cell 1,kr.cell 2,kr.cell 3,kr.cell 4⟩
   obtain⟨z0,z1,z2,z3,z4⟩:_∧_∧_∧_∧_:=⟨kr.frozen 0,kr.frozen 1,kr.frozen 2,kr.frozen 3,kr.frozen 4⟩
   simp only[zPo,List.getElem?_cons_zero,List.getElem?_cons_succ] at c0 c1 c2 c3 c4 r0 r1 r2 r3 r4
   have k9:=((((kr.set 0 (.int .u64 0)).set 1 (.string ⟨#[]⟩)).set 2 (.int .u64 0)).set 3 (.int .i64 0)).set 4 (.slice none 0 0)
   have f9:=((((F2.setCell (p:=⟨w.heap.size,0,none⟩) (Nat.le_refl _) (.int .u64 0)).setCell (p:=⟨w.heap.size,1,none⟩) (Nat.le_refl _) (.string ⟨#[]⟩)).setCell (p:=⟨w.heap.size,2,none⟩) (Nat.le_refl _) (.int .u64 0)).setCell (p:=⟨w.heap.size,3,none⟩) (Nat.le_refl _) (.int .i64 0)).setCell (p:=⟨w.heap.size,4,none⟩) (Nat.le_refl _) (.slice none 0 0)
   go_wp2_with fail
   refine bodyPost_ret (k9.sizedT rfl _ rfl Tryz.underlying39 HI.out) rfl ⟨f9,⟨0,[],0,0,[]⟩,rfl,?_,?_⟩
   ·rw[HNO.out];rfl
   rw[HNO.out];intro p hp;cases hp
  obtain rfl:v=n0:=hvv n0 rfl
  have x0:=kp.cell 0
  have x3:=kp.cell 3
  have y0:=kp.frozen 0
  have y3:=kp.frozen 3
  simp only[zPo,List.getElem?_cons_zero,List.getElem?_cons_succ] at x0 x3
  have kp3:=(kp.set 0 (.int .u64 (v:Int)))
  have fB:=((Below.refl (w.heap.size+1) w2).setCell (p:=⟨w.heap.size+1,0,none⟩) (Nat.le_refl _) (.int .u64 (v:Int)))
  have F3:=(F2.setCell (p:=⟨w.heap.size+1,0,none⟩) (Nat.le_succ _) (.int .u64 (v:Int)))
  have kr3:=kr.below fB (Nat.lt_succ_self _)
  have hbn:¬b=w.heap.size+1:=by omega
  go_upto_region 11 with fail
  have hA7:0<n-3→(if c=3 then some (⟨b,off,none⟩:Addr) else some ⟨b,off+3,none⟩)=some ⟨b,off+3,none⟩:=fun h=>if_neg (by omega)
  generalize (if c=3 then some (⟨b,off,none⟩:Addr) else some ⟨b,off+3,none⟩)=A7 at *
  clear e0 e1 e2 x0 x3 y0 y3 kp kr F2 fB hbn
  refine abs (fun x=>Blk x (w.heap.size+1) 39 [.int .u64 (v:Int),.string ⟨#[]⟩,.int .u64 0,.int .i64 0,.slice none 0 0]∧Blk x w.heap.size 39 zPo∧Below w.heap.size w x) ⟨kp3,kr3,F3⟩ ?_
  clear kp3 kr3 F3
  rintro w44 ⟨kp,kr,F4⟩
  have hrl:n-3=r.length:=by have:=HNL.out;omega
  have hS4:=HSW.out.below F4
  go_cut [65] (fun v wx=>v=.bool (!(nsW r).1.isEmpty)∧wx=w44)
  case first =>
   rcases r with _|⟨x,_|⟨y,r2⟩⟩
   ·have l0:decide ((2:Int)≤((n-3:Nat):Int))=false:=by rw[hrl];simp
    have l1:¬(2:Int)≤((n-3:Nat):Int):=by rw[hrl];simp
    clear hrl
    go_wp2_with fail
    go_meet
    exact⟨rfl,rfl⟩
   ·have l0:decide ((2:Int)≤((n-3:Nat):Int))=false:=by rw[hrl];simp
    have l1:¬(2:Int)≤((n-3:Nat):Int):=by rw[hrl];simp
    clear hrl
    go_wp2_with fail
    go_meet
    exact⟨rfl,rfl⟩
   have l2:(2:Int)≤((n-3:Nat):Int):=by rw[hrl];simp;omega
   have l0:decide ((2:Int)≤((n-3:Nat):Int))=true:=decide_eq_true l2
   have l3:(0:Int)<((n-3:Nat):Int):=by omega
   have l4:(1:Int)<((n-3:Nat):Int):=by omega
   have hA8:=hA7 (by rw[hrl];simp)
   subst hA8
   obtain⟨_,g0⟩:=hS4.one
   obtain⟨_,g1⟩:=hS4.cut.one
   rw[show off+3+1=off+4 from rfl] at g1
   have hqx:((strB x).toList==[110,115])=decide (x=wNs):=by
    have h:=strB_beq x wNs
    rw[strB_toList wNs] at h
    exact h
   have hqy:(strB y).toList.isEmpty=y.isEmpty:=by rw[strB_toList]
   have hans:(!(nsW (x::y::r2)).1.isEmpty)=(decide (x=wNs)&& !y.isEmpty):=by
    unfold nsW pickO
    simp only
    by_cases h1:x=wNs
    ·by_cases h2:y=[]
     ·rw[if_neg (fun h=>h.2 h2),h2];simp
     rw[if_pos ⟨h1,h2⟩,h1];simp
    rw[if_neg (fun h=>h1 h.1)];simp[h1]
   have HANS:=Lib.hid hans
   clear hans hrl hS4
   obtain⟨bx,hbx⟩:∃z,decide (x=wNs)=z:=⟨_,rfl⟩
   obtain⟨by_,hby⟩:∃z,y.isEmpty=z:=⟨_,rfl⟩
   rw[hbx] at hqx HANS
   rw[hby] at hqy HANS
   clear hbx hby
   generalize strB x=sx at *
   generalize strB y=sy at *
   rcases bx with _|_
   ·go_wp2_with fail
    go_meet
    exact⟨by rw[HANS.out];rfl,rfl⟩
   rcases by_ with _|_
   ·go_wp2_with fail
    go_meet
    exact⟨by rw[HANS.out];rfl,rfl⟩
   go_wp2_with fail
   go_meet
   exact⟨by rw[HANS.out];rfl,rfl⟩
  case rest =>
  obtain⟨hv65,hwc⟩:=hcut
  subst hv65
  obtain⟨wg,ewg⟩:∃wg:World,wg=wc:=⟨_,rfl⟩
  subst ewg
  subst hwc
  have hR7:RdR sC 1 w w.heap.size A7 (n-3) r:=by
   rcases Nat.eq_zero_or_pos (n-3) with h0|h0
   ·rw[h0]
    rw[h0] at hrl
    rw[List.eq_nil_of_length_eq_zero hrl.symm]
    exact RdR.nil
   rw[hA7 h0]
   exact HSW.out
  have hhit:=ns_hit (r:=r)
  have hmiss:=ns_miss (r:=r)
  have hR8:(nsW r).1.isEmpty=true→RdR sC 1 w w.heap.size A7 (n-3) (nsW r).2:=fun h=>by rw[ns_miss h];exact hR7
  have hN0:(nsW r).1.isEmpty=true→strB (nsW r).1=⟨#[]⟩:=fun h=>by rw[ns_miss h];rfl
  have HHIT:=Lib.hid hhit;have HR8:=Lib.hid hR8;have HN0:=Lib.hid hN0;have HA7:=Lib.hid hA7
  have hn2:(2:Int)≤((n-3:Nat):Int)→True:=fun _=>trivial
  obtain⟨bb,hbb⟩:∃z,(nsW r).1.isEmpty=z:=⟨_,rfl⟩
  have HBB:=Lib.hid hbb
  rw[hbb]
  clear hbb hhit hmiss hR8 hN0 hA7 hn2
  have HR7:=Lib.hid hR7
  clear hR7
  go_upto_if 65 with fail
  go_cut [7] (fun v7 wx=>(∃A' n' c',v7=.slice A' n' c'∧n'≤c'∧c'≤9223372036854775807∧n'≤1000001∧RdR sC 1 w w.heap.size A' n' (nsW r).2)∧Blk wx (w.heap.size+1) 39 [.int .u64 (v:Int),.string (strB (nsW r).1),.int .u64 0,.int .i64 0,.slice none 0 0]∧Blk wx w.heap.size 39 zPo∧Below w.heap.size w wx)
  case first =>
   rcases bb with _|_
   ·obtain⟨y,r2,hr,hnr⟩:=HHIT.out HBB.out
    have hrl2:n-3=r2.length+2:=by rw[hrl,hr];rfl
    have hA8:=HA7.out (by omega)
    have hR:=HR7.out
    rw[hr] at hR
    subst hA8
    have hR1:=hR.cut
    obtain⟨_,g1⟩:=hR1.one
    have hR2:=hR1.cut
    rw[show off+3+1=off+4 from rfl] at g1 hR2
    rw[show off+4+1=off+5 from rfl,show n-3-1-1=n-5 from by omega] at hR2
    have g1':=(F4.cell (p:=⟨b,off+4,none⟩) hb).trans g1
    have l2:(2:Int)≤((n-3:Nat):Int):=by omega
    have l4:(1:Int)<((n-3:Nat):Int):=by omega
    have l5:(n-3:Nat)≤c-3:=by omega
    have x1:=kp.cell 1
    have y1:=kp.frozen 1
    simp only[List.getElem?_cons_zero,List.getElem?_cons_succ] at x1
    have kp3:=kp.set 1 (.string (strB y))
    have fB:=(Below.refl (w.heap.size+1) wg).setCell (p:=⟨w.heap.size+1,1,none⟩) (Nat.le_refl _) (.string (strB y))
    have F5:=F4.setCell (p:=⟨w.heap.size+1,1,none⟩) (Nat.le_succ _) (.string (strB y))
    have kr3:=kr.below fB (Nat.lt_succ_self _)
    have hbn:¬b=w.heap.size+1:=by omega
    have hbn2:¬w.heap.size+1=b:=by omega
    have HNR:=Lib.hid hnr
    have HRL2:=Lib.hid hrl2
    have HR2:=Lib.hid hR2
    have HY:strB (nsW r).1=strB y:=by rw[hnr]
    have HYY:=Lib.hid HY
    clear hR hR1 hR2 g1 hnr hr hrl hrl2 HY hS4
    obtain⟨sy,hsy⟩:∃z,strB y=z:=⟨_,rfl⟩
    rw[hsy] at g1' kp3 fB F5 kr3
    have HSY:=Lib.hid hsy
    clear hsy
    by_cases hc5:c=5
    ·subst hc5
     have hfin:∀A',RdR sC 1 w w.heap.size A' 0 (nsW r).2:=fun A'=>by
      have h0:n-3-2=0:=by omega
      have h1:r2=[]:=List.eq_nil_of_length_eq_zero (by have:=HRL2.out;omega)
      rw[HNR.out,h1]
      exact RdR.nil
     have HFIN:=Lib.hid hfin
     clear hfin
     go_wp2_with fail
     go_meet
     exact⟨⟨_,_,_,rfl,by omega,by omega,by omega,HFIN.out _⟩,by rw[HYY.out,HSY.out];exact kp3,kr3,F5⟩
    have hc6:¬c-3=2:=by omega
    have hfin:RdR sC 1 w w.heap.size (some ⟨b,off+3+2,none⟩) (n-3-2) (nsW r).2:=by
     rw[HNR.out,show n-3-2=n-5 from by omega]
     exact HR2.out
    have HFIN:=Lib.hid hfin
    clear hfin
    go_wp2_with fail
    go_meet
    exact⟨⟨_,_,_,rfl,by omega,by omega,by omega,HFIN.out⟩,by rw[HYY.out,HSY.out];exact kp3,kr3,F5⟩
   go_wp2_with fail
   go_meet
   exact⟨⟨_,_,_,rfl,by omega,by omega,by omega,HR8.out HBB.out⟩,by rw[HN0.out HBB.out];exact kp,kr,F4⟩
  case rest =>
  obtain⟨⟨A8,n8,c8,hv8,hn8,hc8,hm8,hR8⟩,kp,kr,F5⟩:=hcut
  subst hv8
  obtain⟨wh,ewh⟩:∃wg:World,wg=wc:=⟨_,rfl⟩
  subst ewh
  clear HHIT HR8 HN0 HA7 HBB HR7 HSW hrl
  have hpw:=HPW.out
  try simp only at hpw
  have hsh3:∀x∈(nsW r).2,x.length≤1000000:=fun x hx=>HSH.out x (by
   have:x∈r:=by
    unfold nsW pickO at hx
    rcases r with _|⟨x1,_|⟨y1,r2⟩⟩
    ·exact hx
    ·exact hx
    simp only at hx
    split at hx
    ·exact List.mem_cons_of_mem _ (List.mem_cons_of_mem _ hx)
    exact hx
   exact List.mem_cons_of_mem _ (List.mem_cons_of_mem _ this))
  obtain⟨ns,r3,hnr⟩:∃ns r3,nsW r=(ns,r3):=⟨_,_,rfl⟩
  rw[hnr] at hpw hR8 kp hsh3
  try simp only at hpw
  simp only at hR8 kp hsh3
  obtain⟨sn,hsn⟩:∃z,strB ns=z:=⟨_,rfl⟩
  rw[hsn] at kp
  have HSN:=Lib.hid hsn
  clear hsn hnr HPW
  have hR9:=hR8.below F5
  have hl8:=hR8.1
  rcases r3 with _|⟨x,_|⟨y,r4⟩⟩
  ·have hq:policyW (a::dy::r)=some ⟨v,ns,0,0,[]⟩:=hpw
   have HNO:=Lib.hid hq
   have l0:decide ((2:Int)≤(n8:Int))=false:=by rw[←hl8];simp
   have l1:¬(2:Int)≤(n8:Int):=by rw[←hl8];simp
   have l2:((n8:Int)==0)=true:=by rw[←hl8];rfl
   have l3:n8=0:=by rw[←hl8];rfl
   clear hpw hq hR9 hR8 hl8
   obtain⟨c0,c1,c2,c3,c4⟩:_∧_∧_∧_∧_:=⟨kp.cell 0,kp.cell 1,kp.cell 2,kp.cell 3,kp.cell 4⟩
   obtain⟨r0,r1,r2,r3,r4⟩:_∧_∧_∧_∧_:=⟨kr.cell 0,kr.cell 1,kr.cell 2,kr.cell 3,kr.cell 4⟩
   obtain⟨z0,z1,z2,z3,z4⟩:_∧_∧_∧_∧_:=⟨kr.frozen 0,kr.frozen 1,kr.frozen 2,kr.frozen 3,kr.frozen 4⟩
   simp only[zPo,List.getElem?_cons_zero,List.getElem?_cons_succ] at c0 c1 c2 c3 c4 r0 r1 r2 r3 r4
   have k9:=((((kr.set 0 (.int .u64 (v:Int))).set 1 (.string sn)).set 2 (.int .u64 0)).set 3 (.int .i64 0)).set 4 (.slice none 0 0)
   have f9:=((((F5.setCell (p:=⟨w.heap.size,0,none⟩) (Nat.le_refl _) (.int .u64 (v:Int))).setCell (p:=⟨w.heap.size,1,none⟩) (Nat.le_refl _) (.string sn)).setCell (p:=⟨w.heap.size,2,none⟩) (Nat.le_refl _) (.int .u64 0)).setCell (p:=⟨w.heap.size,3,none⟩) (Nat.le_refl _) (.int .i64 0)).setCell (p:=⟨w.heap.size,4,none⟩) (Nat.le_refl _) (.slice none 0 0)
   go_wp2_with fail
   refine bodyPost_ret (k9.sizedT rfl _ rfl Tryz.underlying39 HI.out) rfl ⟨f9,⟨v,ns,0,0,[]⟩,rfl,?_,?_⟩
   ·rw[HNO.out,HSN.out];rfl
   rw[HNO.out];intro p hp;injection hp
  ·have hq:policyW (a::dy::r)=none:=hpw
   have HNO:=Lib.hid hq
   have l0:decide ((2:Int)≤(n8:Int))=false:=by rw[←hl8];simp
   have l1:¬(2:Int)≤(n8:Int):=by rw[←hl8];simp
   have l2:((n8:Int)==0)=false:=by rw[←hl8];rfl
   have l3:¬n8=0:=by rw[←hl8];simp
   clear hpw hq hR9 hR8 hl8
   obtain⟨c0,c1,c2,c3,c4⟩:_∧_∧_∧_∧_:=⟨kp.cell 0,kp.cell 1,kp.cell 2,kp.cell 3,kp.cell 4⟩
   obtain⟨r0,r1,r2,r3,r4⟩:_∧_∧_∧_∧_:=⟨kr.cell 0,kr.cell 1,kr.cell 2,kr.cell 3,kr.cell 4⟩
   obtain⟨z0,z1,z2,z3,z4⟩:_∧_∧_∧_∧_:=⟨kr.frozen 0,kr.frozen 1,kr.frozen 2,kr.frozen 3,kr.frozen 4⟩
   simp only[zPo,List.getElem?_cons_zero,List.getElem?_cons_succ] at c0 c1 c2 c3 c4 r0 r1 r2 r3 r4
   have k9:=((((kr.set 0 (.int .u64 (v:Int))).set 1 (.string sn)).set 2 (.int .u64 0)).set 3 (.int .i64 0)).set 4 (.slice none 0 0)
   have f9:=((((F5.setCell (p:=⟨w.heap.size,0,none⟩) (Nat.le_refl _) (.int .u64 (v:Int))).setCell (p:=⟨w.heap.size,1,none⟩) (Nat.le_refl _) (.string sn)).setCell (p:=⟨w.heap.size,2,none⟩) (Nat.le_refl _) (.int .u64 0)).setCell (p:=⟨w.heap.size,3,none⟩) (Nat.le_refl _) (.int .i64 0)).setCell (p:=⟨w.heap.size,4,none⟩) (Nat.le_refl _) (.slice none 0 0)
   go_wp2_with fail
   refine bodyPost_ret (k9.sizedT rfl _ rfl Tryz.underlying39 HI.out) rfl ⟨f9,⟨v,ns,0,0,[]⟩,rfl,?_,?_⟩
   ·rw[HNO.out,HSN.out];rfl
   rw[HNO.out];intro p hp;cases hp
  have l1:(2:Int)≤(n8:Int):=by rw[←hl8];simp;omega
  have l0:decide ((2:Int)≤(n8:Int))=true:=decide_eq_true l1
  have l4:(0:Int)<(n8:Int):=by omega
  have l5:(1:Int)<(n8:Int):=by omega
  have hqx:((strB x).toList==[115,101,114,118,105,99,101])=decide (x=wService):=by
   have h:=strB_beq x wService
   rw[strB_toList wService] at h
   exact h
  obtain⟨b8,o8,hA8,hl9⟩:=hR9.ad
  subst hA8
  obtain⟨hb8,g0⟩:=hR9.one
  by_cases hxs:x=wService
  case neg =>
   rw[decide_eq_false hxs] at hqx
   rw[sv_no hxs] at hpw
   have hq:policyW (a::dy::r)=none:=hpw
   have HNO:=Lib.hid hq
   have l2:((n8:Int)==0)=false:=by rw[beq_eq_false_iff_ne];omega
   have l3:¬n8=0:=by omega
   clear hpw hq hR9 hR8 hl8 hxs hl9
   generalize strB x=sx at *
   obtain⟨c0,c1,c2,c3,c4⟩:_∧_∧_∧_∧_:=⟨kp.cell 0,kp.cell 1,kp.cell 2,kp.cell 3,kp.cell 4⟩
   obtain⟨r0,r1,r2,r3,r4⟩:_∧_∧_∧_∧_:=⟨kr.cell 0,kr.cell 1,kr.cell 2,kr.cell 3,kr.cell 4⟩
   obtain⟨z0,z1,z2,z3,z4⟩:_∧_∧_∧_∧_:=⟨kr.frozen 0,kr.frozen 1,kr.frozen 2,kr.frozen 3,kr.frozen 4⟩
   simp only[zPo,List.getElem?_cons_zero,List.getElem?_cons_succ] at c0 c1 c2 c3 c4 r0 r1 r2 r3 r4
   have k9:=((((kr.set 0 (.int .u64 (v:Int))).set 1 (.string sn)).set 2 (.int .u64 0)).set 3 (.int .i64 0)).set 4 (.slice none 0 0)
   have f9:=((((F5.setCell (p:=⟨w.heap.size,0,none⟩) (Nat.le_refl _) (.int .u64 (v:Int))).setCell (p:=⟨w.heap.size,1,none⟩) (Nat.le_refl _) (.string sn)).setCell (p:=⟨w.heap.size,2,none⟩) (Nat.le_refl _) (.int .u64 0)).setCell (p:=⟨w.heap.size,3,none⟩) (Nat.le_refl _) (.int .i64 0)).setCell (p:=⟨w.heap.size,4,none⟩) (Nat.le_refl _) (.slice none 0 0)
   go_wp2_with fail
   refine bodyPost_ret (k9.sizedT rfl _ rfl Tryz.underlying39 HI.out) rfl ⟨f9,⟨v,ns,0,0,[]⟩,rfl,?_,?_⟩
   ·rw[HNO.out,HSN.out];rfl
   rw[HNO.out];intro p hp;cases hp
  rw[decide_eq_true hxs] at hqx
  rw[hxs,sv_yes] at hpw
  have hR10:=hR9.cut
  obtain⟨hb9,g1⟩:=hR10.one
  have hR11:=hR10.cut
  have hy:=hsh3 y (by simp)
  have hnum:=rNum_any y hy wh
  unfold RNumP at hnum
  obtain⟨o,ho⟩:∃o,numO y=o:=⟨_,rfl⟩
  rw[ho] at hnum hpw
  have HR11:=Lib.hid hR11
  have HL9:=Lib.hid hl9
  have HPW:=Lib.hid hpw
  clear hpw ho hR9 hR10 hR11 hR8 hl8 hl9 hxs
  generalize strB x=sx at *
  generalize strB y=sy at *
  go_wp2_with fail
  refine hnum.mono ?_
  rintro e w6 ⟨u,hu64,rfl,huu,f6⟩
  have F6:=F5.trans (f6.mono F5.size)
  replace kp:=kp.below f6 kp.lt
  replace kr:=kr.below f6 kr.lt
  clear hnum g0 g1 f6
  rcases o with _|n1
  ·have HNO:=Lib.hid (show policyW (a::dy::r)=none from HPW.out)
   obtain⟨c0,c1,c2,c3,c4⟩:_∧_∧_∧_∧_:=⟨kp.cell 0,kp.cell 1,kp.cell 2,kp.cell 3,kp.cell 4⟩
   obtain⟨r0,r1,r2,r3,r4⟩:_∧_∧_∧_∧_:=⟨kr.cell 0,kr.cell 1,kr.cell 2,kr.cell 3,kr.cell 4⟩
   obtain⟨z0,z1,z2,z3,z4⟩:_∧_∧_∧_∧_:=⟨kr.frozen 0,kr.frozen 1,kr.frozen 2,kr.frozen 3,kr.frozen 4⟩
   simp only[zPo,List.getElem?_cons_zero,List.getElem?_cons_succ] at c0 c1 c2 c3 c4 r0 r1 r2 r3 r4
   have k9:=((((kr.set 0 (.int .u64 (v:Int))).set 1 (.string sn)).set 2 (.int .u64 0)).set 3 (.int .i64 0)).set 4 (.slice none 0 0)
   have f9:=((((F6.setCell (p:=⟨w.heap.size,0,none⟩) (Nat.le_refl _) (.int .u64 (v:Int))).setCell (p:=⟨w.heap.size,1,none⟩) (Nat.le_refl _) (.string sn)).setCell (p:=⟨w.heap.size,2,none⟩) (Nat.le_refl _) (.int .u64 0)).setCell (p:=⟨w.heap.size,3,none⟩) (Nat.le_refl _) (.int .i64 0)).setCell (p:=⟨w.heap.size,4,none⟩) (Nat.le_refl _) (.slice none 0 0)
   go_wp2_with fail
   refine bodyPost_ret (k9.sizedT rfl _ rfl Tryz.underlying39 HI.out) rfl ⟨f9,⟨v,ns,0,0,[]⟩,rfl,?_,?_⟩
   ·rw[HNO.out,HSN.out];rfl
   rw[HNO.out];intro p hp;cases hp
  obtain rfl:u=n1:=huu n1 rfl
  have hpw:=HPW.out
  try simp only at hpw
  by_cases hu0:u=0
  ·rw[if_pos hu0] at hpw
   have HNO:=Lib.hid (show policyW (a::dy::r)=none from hpw)
   have l2:((u:Int)==0)=true:=by rw[beq_iff_eq];omega
   clear hpw huu
   obtain⟨c0,c1,c2,c3,c4⟩:_∧_∧_∧_∧_:=⟨kp.cell 0,kp.cell 1,kp.cell 2,kp.cell 3,kp.cell 4⟩
   obtain⟨r0,r1,r2,r3,r4⟩:_∧_∧_∧_∧_:=⟨kr.cell 0,kr.cell 1,kr.cell 2,kr.cell 3,kr.cell 4⟩
   obtain⟨z0,z1,z2,z3,z4⟩:_∧_∧_∧_∧_:=⟨kr.frozen 0,kr.frozen 1,kr.frozen 2,kr.frozen 3,kr.frozen 4⟩
   simp only[zPo,List.getElem?_cons_zero,List.getElem?_cons_succ] at c0 c1 c2 c3 c4 r0 r1 r2 r3 r4
   have k9:=((((kr.set 0 (.int .u64 (v:Int))).set 1 (.string sn)).set 2 (.int .u64 0)).set 3 (.int .i64 0)).set 4 (.slice none 0 0)
   have f9:=((((F6.setCell (p:=⟨w.heap.size,0,none⟩) (Nat.le_refl _) (.int .u64 (v:Int))).setCell (p:=⟨w.heap.size,1,none⟩) (Nat.le_refl _) (.string sn)).setCell (p:=⟨w.heap.size,2,none⟩) (Nat.le_refl _) (.int .u64 0)).setCell (p:=⟨w.heap.size,3,none⟩) (Nat.le_refl _) (.int .i64 0)).setCell (p:=⟨w.heap.size,4,none⟩) (Nat.le_refl _) (.slice none 0 0)
   go_wp2_with fail
   refine bodyPost_ret (k9.sizedT rfl _ rfl Tryz.underlying39 HI.out) rfl ⟨f9,⟨v,ns,0,0,[]⟩,rfl,?_,?_⟩
   ·rw[HNO.out,HSN.out];rfl
   rw[HNO.out];intro p hp;cases hp
  rw[if_neg hu0] at hpw
  have hpw2:policyW (a::dy::r)=if r4=[] then some ⟨v,ns,u,0,[]⟩ else none:=hpw
  have l2:((u:Int)==0)=false:=by rw[beq_eq_false_iff_ne];omega
  have l9:=HL9.out
  rw[List.length_cons] at l9
  have hr4:(((n8-2:Nat):Int)==0)=decide (r4=[]):=by
   have h1:n8-2=r4.length:=by omega
   rw[h1,Bool.eq_iff_iff]
   simp
  have hans:∀p,policyW (a::dy::r)=some p→(⟨v,ns,u,0,[]⟩:Po)=p:=fun p hp=>by
   rw[hpw2] at hp
   split at hp
   ·injection hp
   cases hp
  have hsome:(policyW (a::dy::r)).isSome=decide (r4=[]):=by
   rw[hpw2]
   by_cases h:r4=[]
   ·rw[if_pos h,decide_eq_true h];rfl
   rw[if_neg h,decide_eq_false h];rfl
  have HANS:=Lib.hid hans;have HSOME:=Lib.hid hsome
  obtain⟨q4,hq4⟩:∃z,decide (r4=[])=z:=⟨_,rfl⟩
  rw[hq4] at hr4
  have HQ4:=Lib.hid hq4
  have x2:=kp.cell 2
  have y2:=kp.frozen 2
  simp only[List.getElem?_cons_zero,List.getElem?_cons_succ] at x2
  have kp3:=kp.set 2 (.int .u64 (u:Int))
  have fB:=(Below.refl (w.heap.size+1) w6).setCell (p:=⟨w.heap.size+1,2,none⟩) (Nat.le_refl _) (.int .u64 (u:Int))
  have F7:=F6.setCell (p:=⟨w.heap.size+1,2,none⟩) (Nat.le_succ _) (.int .u64 (u:Int))
  have kr3:=kr.below fB (Nat.lt_succ_self _)
  clear hpw hpw2 huu hans hsome hq4 l9 fB hu0 kp kr
  go_upto_region 20 with fail
  generalize (if c8=2 then some (⟨b8,o8,none⟩:Addr) else some ⟨b8,o8+2,none⟩)=A9 at *
  all_goals
   clear x2 y2 F6
   refine abs (fun x=>Blk x (w.heap.size+1) 39 [.int .u64 (v:Int),.string sn,.int .u64 (u:Int),.int .i64 0,.slice none 0 0]∧Blk x w.heap.size 39 zPo∧Below w.heap.size w x) ⟨kp3,kr3,F7⟩ ?_
   clear kp3 kr3 F7
   rintro w8 ⟨kp,kr,F8⟩
   obtain⟨c0,c1,c2,c3,c4⟩:_∧_∧_∧_∧_:=⟨kp.cell 0,kp.cell 1,kp.cell 2,kp.cell 3,kp.cell 4⟩
   obtain⟨r0,r1,r2,r3,r4⟩:_∧_∧_∧_∧_:=⟨kr.cell 0,kr.cell 1,kr.cell 2,kr.cell 3,kr.cell 4⟩
   obtain⟨z0,z1,z2,z3,z4⟩:_∧_∧_∧_∧_:=⟨kr.frozen 0,kr.frozen 1,kr.frozen 2,kr.frozen 3,kr.frozen 4⟩
   simp only[zPo,List.getElem?_cons_zero,List.getElem?_cons_succ] at c0 c1 c2 c3 c4 r0 r1 r2 r3 r4
   have k9:=((((kr.set 0 (.int .u64 (v:Int))).set 1 (.string sn)).set 2 (.int .u64 (u:Int))).set 3 (.int .i64 0)).set 4 (.slice none 0 0)
   have f9:=((((F8.setCell (p:=⟨w.heap.size,0,none⟩) (Nat.le_refl _) (.int .u64 (v:Int))).setCell (p:=⟨w.heap.size,1,none⟩) (Nat.le_refl _) (.string sn)).setCell (p:=⟨w.heap.size,2,none⟩) (Nat.le_refl _) (.int .u64 (u:Int))).setCell (p:=⟨w.heap.size,3,none⟩) (Nat.le_refl _) (.int .i64 0)).setCell (p:=⟨w.heap.size,4,none⟩) (Nat.le_refl _) (.slice none 0 0)
   go_wp2_with fail
   refine bodyPost_ret (k9.sizedT rfl _ rfl Tryz.underlying39 HI.out) rfl ⟨f9,⟨v,ns,u,0,[]⟩,rfl,?_,?_⟩
   ·rw[HSOME.out,HQ4.out,HSN.out];rfl
   exact HANS.out
 go_wp2_with fail
 refine hnum1.mono ?_
 rintro e w2 ⟨v,hv64,rfl,hvv,f2⟩
 have F2:=F0.trans (f2.mono F0.size)
 replace kp:=kp.below f2 kp.lt
 replace kr:=kr.below f2 kr.lt
 replace e0:=(f2.cell (p:=⟨b,off,none⟩) (World.block_lt_of_cell? wb _ e0)).trans e0
 replace e1:=(f2.cell (p:=⟨b,off+1,none⟩) (World.block_lt_of_cell? wb _ e1)).trans e1
 replace e2:=(f2.cell (p:=⟨b,off+2,none⟩) (World.block_lt_of_cell? wb _ e2)).trans e2
 clear hnum1 f2
 rcases o with _|n0
 ·have HNO:=Lib.hid HPW.out
  obtain⟨c0,c1,c2,c3,c4⟩:_∧_∧_∧_∧_:=⟨kp.cell 0,kp.cell 1,kp.cell 2,kp.cell 3,kp.cell 4⟩
  obtain⟨r0,r1,r2,r3,r4⟩:_∧_∧_∧_∧_:=⟨kr.cell 0,kr.cell 1,kr.cell 2,kr.cell 3,kr.cell 4⟩
  obtain⟨z0,z1,z2,z3,z4⟩:_∧_∧_∧_∧_:=⟨kr.frozen 0,kr.frozen 1,kr.frozen 2,kr.frozen 3,kr.frozen 4⟩
  simp only[zPo,List.getElem?_cons_zero,List.getElem?_cons_succ] at c0 c1 c2 c3 c4 r0 r1 r2 r3 r4
  have k9:=((((kr.set 0 (.int .u64 0)).set 1 (.string ⟨#[]⟩)).set 2 (.int .u64 0)).set 3 (.int .i64 0)).set 4 (.slice none 0 0)
  have f9:=((((F2.setCell (p:=⟨w.heap.size,0,none⟩) (Nat.le_refl _) (.int .u64 0)).setCell (p:=⟨w.heap.size,1,none⟩) (Nat.le_refl _) (.string ⟨#[]⟩)).setCell (p:=⟨w.heap.size,2,none⟩) (Nat.le_refl _) (.int .u64 0)).setCell (p:=⟨w.heap.size,3,none⟩) (Nat.le_refl _) (.int .i64 0)).setCell (p:=⟨w.heap.size,4,none⟩) (Nat.le_refl _) (.slice none 0 0)
  go_wp2_with fail
  refine bodyPost_ret (k9.sizedT rfl _ rfl Tryz.underlying39 HI.out) rfl ⟨f9,⟨0,[],0,0,[]⟩,rfl,?_,?_⟩
  ·rw[HNO.out];rfl
  rw[HNO.out];intro p hp;cases hp
 obtain rfl:v=n0:=hvv n0 rfl
 have x0:=kp.cell 0
 have x3:=kp.cell 3
 have y0:=kp.frozen 0
 have y3:=kp.frozen 3
 simp only[zPo,List.getElem?_cons_zero,List.getElem?_cons_succ] at x0 x3
 have kp3:=(kp.set 0 (.int .u64 (v:Int))).set 3 (.int .i64 1)
 have fB:=((Below.refl (w.heap.size+1) w2).setCell (p:=⟨w.heap.size+1,0,none⟩) (Nat.le_refl _) (.int .u64 (v:Int))).setCell (p:=⟨w.heap.size+1,3,none⟩) (Nat.le_refl _) (.int .i64 1)
 have F3:=(F2.setCell (p:=⟨w.heap.size+1,0,none⟩) (Nat.le_succ _) (.int .u64 (v:Int))).setCell (p:=⟨w.heap.size+1,3,none⟩) (Nat.le_succ _) (.int .i64 1)
 have kr3:=kr.below fB (Nat.lt_succ_self _)
 have hbn:¬b=w.heap.size+1:=by omega
 go_upto_region 11 with fail
 have hA7:0<n-3→(if c=3 then some (⟨b,off,none⟩:Addr) else some ⟨b,off+3,none⟩)=some ⟨b,off+3,none⟩:=fun h=>if_neg (by omega)
 generalize (if c=3 then some (⟨b,off,none⟩:Addr) else some ⟨b,off+3,none⟩)=A7 at *
 clear e0 e1 e2 x0 x3 y0 y3 kp kr F2 fB hbn
 refine abs (fun x=>Blk x (w.heap.size+1) 39 [.int .u64 (v:Int),.string ⟨#[]⟩,.int .u64 0,.int .i64 1,.slice none 0 0]∧Blk x w.heap.size 39 zPo∧Below w.heap.size w x) ⟨kp3,kr3,F3⟩ ?_
 clear kp3 kr3 F3
 rintro w44 ⟨kp,kr,F4⟩
 have hrl:n-3=r.length:=by have:=HNL.out;omega
 have hS4:=HSW.out.below F4
 go_cut [65] (fun v wx=>v=.bool (!(nsW r).1.isEmpty)∧wx=w44)
 case first =>
  rcases r with _|⟨x,_|⟨y,r2⟩⟩
  ·have l0:decide ((2:Int)≤((n-3:Nat):Int))=false:=by rw[hrl];simp
   have l1:¬(2:Int)≤((n-3:Nat):Int):=by rw[hrl];simp
   clear hrl
   go_wp2_with fail
   go_meet
   exact⟨rfl,rfl⟩
  ·have l0:decide ((2:Int)≤((n-3:Nat):Int))=false:=by rw[hrl];simp
   have l1:¬(2:Int)≤((n-3:Nat):Int):=by rw[hrl];simp
   clear hrl
   go_wp2_with fail
   go_meet
   exact⟨rfl,rfl⟩
  have l2:(2:Int)≤((n-3:Nat):Int):=by rw[hrl];simp;omega
  have l0:decide ((2:Int)≤((n-3:Nat):Int))=true:=decide_eq_true l2
  have l3:(0:Int)<((n-3:Nat):Int):=by omega
  have l4:(1:Int)<((n-3:Nat):Int):=by omega
  have hA8:=hA7 (by rw[hrl];simp)
  subst hA8
  obtain⟨_,g0⟩:=hS4.one
  obtain⟨_,g1⟩:=hS4.cut.one
  rw[show off+3+1=off+4 from rfl] at g1
  have hqx:((strB x).toList==[110,115])=decide (x=wNs):=by
   have h:=strB_beq x wNs
   rw[strB_toList wNs] at h
   exact h
  have hqy:(strB y).toList.isEmpty=y.isEmpty:=by rw[strB_toList]
  have hans:(!(nsW (x::y::r2)).1.isEmpty)=(decide (x=wNs)&& !y.isEmpty):=by
   unfold nsW pickO
   simp only
   by_cases h1:x=wNs
   ·by_cases h2:y=[]
    ·rw[if_neg (fun h=>h.2 h2),h2];simp
    rw[if_pos ⟨h1,h2⟩,h1];simp
   rw[if_neg (fun h=>h1 h.1)];simp[h1]
  have HANS:=Lib.hid hans
  clear hans hrl hS4
  obtain⟨bx,hbx⟩:∃z,decide (x=wNs)=z:=⟨_,rfl⟩
  obtain⟨by_,hby⟩:∃z,y.isEmpty=z:=⟨_,rfl⟩
  rw[hbx] at hqx HANS
  rw[hby] at hqy HANS
  clear hbx hby
  generalize strB x=sx at *
  generalize strB y=sy at *
  rcases bx with _|_
  ·go_wp2_with fail
   go_meet
   exact⟨by rw[HANS.out];rfl,rfl⟩
  rcases by_ with _|_
  ·go_wp2_with fail
   go_meet
   exact⟨by rw[HANS.out];rfl,rfl⟩
  go_wp2_with fail
  go_meet
  exact⟨by rw[HANS.out];rfl,rfl⟩
 case rest =>
 obtain⟨hv65,hwc⟩:=hcut
 subst hv65
 obtain⟨wg,ewg⟩:∃wg:World,wg=wc:=⟨_,rfl⟩
 subst ewg
 subst hwc
 have hR7:RdR sC 1 w w.heap.size A7 (n-3) r:=by
  rcases Nat.eq_zero_or_pos (n-3) with h0|h0
  ·rw[h0]
   rw[h0] at hrl
   rw[List.eq_nil_of_length_eq_zero hrl.symm]
   exact RdR.nil
  rw[hA7 h0]
  exact HSW.out
 have hhit:=ns_hit (r:=r)
 have hmiss:=ns_miss (r:=r)
 have hR8:(nsW r).1.isEmpty=true→RdR sC 1 w w.heap.size A7 (n-3) (nsW r).2:=fun h=>by rw[ns_miss h];exact hR7
 have hN0:(nsW r).1.isEmpty=true→strB (nsW r).1=⟨#[]⟩:=fun h=>by rw[ns_miss h];rfl
 have HHIT:=Lib.hid hhit;have HR8:=Lib.hid hR8;have HN0:=Lib.hid hN0;have HA7:=Lib.hid hA7
 have hn2:(2:Int)≤((n-3:Nat):Int)→True:=fun _=>trivial
 obtain⟨bb,hbb⟩:∃z,(nsW r).1.isEmpty=z:=⟨_,rfl⟩
 have HBB:=Lib.hid hbb
 rw[hbb]
 clear hbb hhit hmiss hR8 hN0 hA7 hn2
 have HR7:=Lib.hid hR7
 clear hR7
 go_upto_if 65 with fail
 go_cut [7] (fun v7 wx=>(∃A' n' c',v7=.slice A' n' c'∧n'≤c'∧c'≤9223372036854775807∧n'≤1000001∧RdR sC 1 w w.heap.size A' n' (nsW r).2)∧Blk wx (w.heap.size+1) 39 [.int .u64 (v:Int),.string (strB (nsW r).1),.int .u64 0,.int .i64 1,.slice none 0 0]∧Blk wx w.heap.size 39 zPo∧Below w.heap.size w wx)
 case first =>
  rcases bb with _|_
  ·obtain⟨y,r2,hr,hnr⟩:=HHIT.out HBB.out
   have hrl2:n-3=r2.length+2:=by rw[hrl,hr];rfl
   have hA8:=HA7.out (by omega)
   have hR:=HR7.out
   rw[hr] at hR
   subst hA8
   have hR1:=hR.cut
   obtain⟨_,g1⟩:=hR1.one
   have hR2:=hR1.cut
   rw[show off+3+1=off+4 from rfl] at g1 hR2
   rw[show off+4+1=off+5 from rfl,show n-3-1-1=n-5 from by omega] at hR2
   have g1':=(F4.cell (p:=⟨b,off+4,none⟩) hb).trans g1
   have l2:(2:Int)≤((n-3:Nat):Int):=by omega
   have l4:(1:Int)<((n-3:Nat):Int):=by omega
   have l5:(n-3:Nat)≤c-3:=by omega
   have x1:=kp.cell 1
   have y1:=kp.frozen 1
   simp only[List.getElem?_cons_zero,List.getElem?_cons_succ] at x1
   have kp3:=kp.set 1 (.string (strB y))
   have fB:=(Below.refl (w.heap.size+1) wg).setCell (p:=⟨w.heap.size+1,1,none⟩) (Nat.le_refl _) (.string (strB y))
   have F5:=F4.setCell (p:=⟨w.heap.size+1,1,none⟩) (Nat.le_succ _) (.string (strB y))
   have kr3:=kr.below fB (Nat.lt_succ_self _)
   have hbn:¬b=w.heap.size+1:=by omega
   have hbn2:¬w.heap.size+1=b:=by omega
   have HNR:=Lib.hid hnr
   have HRL2:=Lib.hid hrl2
   have HR2:=Lib.hid hR2
   have HY:strB (nsW r).1=strB y:=by rw[hnr]
   have HYY:=Lib.hid HY
   clear hR hR1 hR2 g1 hnr hr hrl hrl2 HY hS4
   obtain⟨sy,hsy⟩:∃z,strB y=z:=⟨_,rfl⟩
   rw[hsy] at g1' kp3 fB F5 kr3
   have HSY:=Lib.hid hsy
   clear hsy
   by_cases hc5:c=5
   ·subst hc5
    have hfin:∀A',RdR sC 1 w w.heap.size A' 0 (nsW r).2:=fun A'=>by
     have h0:n-3-2=0:=by omega
     have h1:r2=[]:=List.eq_nil_of_length_eq_zero (by have:=HRL2.out;omega)
     rw[HNR.out,h1]
     exact RdR.nil
    have HFIN:=Lib.hid hfin
    clear hfin
    go_wp2_with fail
    go_meet
    exact⟨⟨_,_,_,rfl,by omega,by omega,by omega,HFIN.out _⟩,by rw[HYY.out,HSY.out];exact kp3,kr3,F5⟩
   have hc6:¬c-3=2:=by omega
   have hfin:RdR sC 1 w w.heap.size (some ⟨b,off+3+2,none⟩) (n-3-2) (nsW r).2:=by
    rw[HNR.out,show n-3-2=n-5 from by omega]
    exact HR2.out
   have HFIN:=Lib.hid hfin
   clear hfin
   go_wp2_with fail
   go_meet
   exact⟨⟨_,_,_,rfl,by omega,by omega,by omega,HFIN.out⟩,by rw[HYY.out,HSY.out];exact kp3,kr3,F5⟩
  go_wp2_with fail
  go_meet
  exact⟨⟨_,_,_,rfl,by omega,by omega,by omega,HR8.out HBB.out⟩,by rw[HN0.out HBB.out];exact kp,kr,F4⟩
 case rest =>
 obtain⟨⟨A8,n8,c8,hv8,hn8,hc8,hm8,hR8⟩,kp,kr,F5⟩:=hcut
 subst hv8
 obtain⟨wh,ewh⟩:∃wg:World,wg=wc:=⟨_,rfl⟩
 subst ewh
 clear HHIT HR8 HN0 HA7 HBB HR7 HSW hrl
 have hpw:=HPW.out
 try simp only at hpw
 have hsh3:∀x∈(nsW r).2,x.length≤1000000:=fun x hx=>HSH.out x (by
  have:x∈r:=by
   unfold nsW pickO at hx
   rcases r with _|⟨x1,_|⟨y1,r2⟩⟩
   ·exact hx
   ·exact hx
   simp only at hx
   split at hx
   ·exact List.mem_cons_of_mem _ (List.mem_cons_of_mem _ hx)
   exact hx
  exact List.mem_cons_of_mem _ (List.mem_cons_of_mem _ this))
 obtain⟨ns,r3,hnr⟩:∃ns r3,nsW r=(ns,r3):=⟨_,_,rfl⟩
 rw[hnr] at hpw hR8 kp hsh3
 try simp only at hpw
 simp only at hR8 kp hsh3
 obtain⟨sn,hsn⟩:∃z,strB ns=z:=⟨_,rfl⟩
 rw[hsn] at kp
 have HSN:=Lib.hid hsn
 clear hsn hnr HPW
 have hR9:=hR8.below F5
 have hl8:=hR8.1
 rcases r3 with _|⟨x,_|⟨y,r4⟩⟩
 ·have hq:policyW (a::dy::r)=some ⟨v,ns,0,1,[]⟩:=hpw
  have HNO:=Lib.hid hq
  have l0:decide ((2:Int)≤(n8:Int))=false:=by rw[←hl8];simp
  have l1:¬(2:Int)≤(n8:Int):=by rw[←hl8];simp
  have l2:((n8:Int)==0)=true:=by rw[←hl8];rfl
  have l3:n8=0:=by rw[←hl8];rfl
  clear hpw hq hR9 hR8 hl8
  obtain⟨c0,c1,c2,c3,c4⟩:_∧_∧_∧_∧_:=⟨kp.cell 0,kp.cell 1,kp.cell 2,kp.cell 3,kp.cell 4⟩
  obtain⟨r0,r1,r2,r3,r4⟩:_∧_∧_∧_∧_:=⟨kr.cell 0,kr.cell 1,kr.cell 2,kr.cell 3,kr.cell 4⟩
  obtain⟨z0,z1,z2,z3,z4⟩:_∧_∧_∧_∧_:=⟨kr.frozen 0,kr.frozen 1,kr.frozen 2,kr.frozen 3,kr.frozen 4⟩
  simp only[zPo,List.getElem?_cons_zero,List.getElem?_cons_succ] at c0 c1 c2 c3 c4 r0 r1 r2 r3 r4
  have k9:=((((kr.set 0 (.int .u64 (v:Int))).set 1 (.string sn)).set 2 (.int .u64 0)).set 3 (.int .i64 1)).set 4 (.slice none 0 0)
  have f9:=((((F5.setCell (p:=⟨w.heap.size,0,none⟩) (Nat.le_refl _) (.int .u64 (v:Int))).setCell (p:=⟨w.heap.size,1,none⟩) (Nat.le_refl _) (.string sn)).setCell (p:=⟨w.heap.size,2,none⟩) (Nat.le_refl _) (.int .u64 0)).setCell (p:=⟨w.heap.size,3,none⟩) (Nat.le_refl _) (.int .i64 1)).setCell (p:=⟨w.heap.size,4,none⟩) (Nat.le_refl _) (.slice none 0 0)
  go_wp2_with fail
  refine bodyPost_ret (k9.sizedT rfl _ rfl Tryz.underlying39 HI.out) rfl ⟨f9,⟨v,ns,0,1,[]⟩,rfl,?_,?_⟩
  ·rw[HNO.out,HSN.out];rfl
  rw[HNO.out];intro p hp;injection hp
 ·have hq:policyW (a::dy::r)=none:=hpw
  have HNO:=Lib.hid hq
  have l0:decide ((2:Int)≤(n8:Int))=false:=by rw[←hl8];simp
  have l1:¬(2:Int)≤(n8:Int):=by rw[←hl8];simp
  have l2:((n8:Int)==0)=false:=by rw[←hl8];rfl
  have l3:¬n8=0:=by rw[←hl8];simp
  clear hpw hq hR9 hR8 hl8
  obtain⟨c0,c1,c2,c3,c4⟩:_∧_∧_∧_∧_:=⟨kp.cell 0,kp.cell 1,kp.cell 2,kp.cell 3,kp.cell 4⟩
  obtain⟨r0,r1,r2,r3,r4⟩:_∧_∧_∧_∧_:=⟨kr.cell 0,kr.cell 1,kr.cell 2,kr.cell 3,kr.cell 4⟩
  obtain⟨z0,z1,z2,z3,z4⟩:_∧_∧_∧_∧_:=⟨kr.frozen 0,kr.frozen 1,kr.frozen 2,kr.frozen 3,kr.frozen 4⟩
  simp only[zPo,List.getElem?_cons_zero,List.getElem?_cons_succ] at c0 c1 c2 c3 c4 r0 r1 r2 r3 r4
  have k9:=((((kr.set 0 (.int .u64 (v:Int))).set 1 (.string sn)).set 2 (.int .u64 0)).set 3 (.int .i64 1)).set 4 (.slice none 0 0)
  have f9:=((((F5.setCell (p:=⟨w.heap.size,0,none⟩) (Nat.le_refl _) (.int .u64 (v:Int))).setCell (p:=⟨w.heap.size,1,none⟩) (Nat.le_refl _) (.string sn)).setCell (p:=⟨w.heap.size,2,none⟩) (Nat.le_refl _) (.int .u64 0)).setCell (p:=⟨w.heap.size,3,none⟩) (Nat.le_refl _) (.int .i64 1)).setCell (p:=⟨w.heap.size,4,none⟩) (Nat.le_refl _) (.slice none 0 0)
  go_wp2_with fail
  refine bodyPost_ret (k9.sizedT rfl _ rfl Tryz.underlying39 HI.out) rfl ⟨f9,⟨v,ns,0,1,[]⟩,rfl,?_,?_⟩
  ·rw[HNO.out,HSN.out];rfl
  rw[HNO.out];intro p hp;cases hp
 have l1:(2:Int)≤(n8:Int):=by rw[←hl8];simp;omega
 have l0:decide ((2:Int)≤(n8:Int))=true:=decide_eq_true l1
 have l4:(0:Int)<(n8:Int):=by omega
 have l5:(1:Int)<(n8:Int):=by omega
 have hqx:((strB x).toList==[115,101,114,118,105,99,101])=decide (x=wService):=by
  have h:=strB_beq x wService
  rw[strB_toList wService] at h
  exact h
 obtain⟨b8,o8,hA8,hl9⟩:=hR9.ad
 subst hA8
 obtain⟨hb8,g0⟩:=hR9.one
 by_cases hxs:x=wService
 case neg =>
  rw[decide_eq_false hxs] at hqx
  rw[sv_no hxs] at hpw
  have hq:policyW (a::dy::r)=none:=hpw
  have HNO:=Lib.hid hq
  have l2:((n8:Int)==0)=false:=by rw[beq_eq_false_iff_ne];omega
  have l3:¬n8=0:=by omega
  clear hpw hq hR9 hR8 hl8 hxs hl9
  generalize strB x=sx at *
  obtain⟨c0,c1,c2,c3,c4⟩:_∧_∧_∧_∧_:=⟨kp.cell 0,kp.cell 1,kp.cell 2,kp.cell 3,kp.cell 4⟩
  obtain⟨r0,r1,r2,r3,r4⟩:_∧_∧_∧_∧_:=⟨kr.cell 0,kr.cell 1,kr.cell 2,kr.cell 3,kr.cell 4⟩
  obtain⟨z0,z1,z2,z3,z4⟩:_∧_∧_∧_∧_:=⟨kr.frozen 0,kr.frozen 1,kr.frozen 2,kr.frozen 3,kr.frozen 4⟩
  simp only[zPo,List.getElem?_cons_zero,List.getElem?_cons_succ] at c0 c1 c2 c3 c4 r0 r1 r2 r3 r4
  have k9:=((((kr.set 0 (.int .u64 (v:Int))).set 1 (.string sn)).set 2 (.int .u64 0)).set 3 (.int .i64 1)).set 4 (.slice none 0 0)
  have f9:=((((F5.setCell (p:=⟨w.heap.size,0,none⟩) (Nat.le_refl _) (.int .u64 (v:Int))).setCell (p:=⟨w.heap.size,1,none⟩) (Nat.le_refl _) (.string sn)).setCell (p:=⟨w.heap.size,2,none⟩) (Nat.le_refl _) (.int .u64 0)).setCell (p:=⟨w.heap.size,3,none⟩) (Nat.le_refl _) (.int .i64 1)).setCell (p:=⟨w.heap.size,4,none⟩) (Nat.le_refl _) (.slice none 0 0)
  go_wp2_with fail
  refine bodyPost_ret (k9.sizedT rfl _ rfl Tryz.underlying39 HI.out) rfl ⟨f9,⟨v,ns,0,1,[]⟩,rfl,?_,?_⟩
  ·rw[HNO.out,HSN.out];rfl
  rw[HNO.out];intro p hp;cases hp
 rw[decide_eq_true hxs] at hqx
 rw[hxs,sv_yes] at hpw
 have hR10:=hR9.cut
 obtain⟨hb9,g1⟩:=hR10.one
 have hR11:=hR10.cut
 have hy:=hsh3 y (by simp)
 have hnum:=rNum_any y hy wh
 unfold RNumP at hnum
 obtain⟨o,ho⟩:∃o,numO y=o:=⟨_,rfl⟩
 rw[ho] at hnum hpw
 have HR11:=Lib.hid hR11
 have HL9:=Lib.hid hl9
 have HPW:=Lib.hid hpw
 clear hpw ho hR9 hR10 hR11 hR8 hl8 hl9 hxs
 generalize strB x=sx at *
 generalize strB y=sy at *
 go_wp2_with fail
 refine hnum.mono ?_
 rintro e w6 ⟨u,hu64,rfl,huu,f6⟩
 have F6:=F5.trans (f6.mono F5.size)
 replace kp:=kp.below f6 kp.lt
 replace kr:=kr.below f6 kr.lt
 clear hnum g0 g1 f6
 rcases o with _|n1
 ·have HNO:=Lib.hid (show policyW (a::dy::r)=none from HPW.out)
  obtain⟨c0,c1,c2,c3,c4⟩:_∧_∧_∧_∧_:=⟨kp.cell 0,kp.cell 1,kp.cell 2,kp.cell 3,kp.cell 4⟩
  obtain⟨r0,r1,r2,r3,r4⟩:_∧_∧_∧_∧_:=⟨kr.cell 0,kr.cell 1,kr.cell 2,kr.cell 3,kr.cell 4⟩
  obtain⟨z0,z1,z2,z3,z4⟩:_∧_∧_∧_∧_:=⟨kr.frozen 0,kr.frozen 1,kr.frozen 2,kr.frozen 3,kr.frozen 4⟩
  simp only[zPo,List.getElem?_cons_zero,List.getElem?_cons_succ] at c0 c1 c2 c3 c4 r0 r1 r2 r3 r4
  have k9:=((((kr.set 0 (.int .u64 (v:Int))).set 1 (.string sn)).set 2 (.int .u64 0)).set 3 (.int .i64 1)).set 4 (.slice none 0 0)
  have f9:=((((F6.setCell (p:=⟨w.heap.size,0,none⟩) (Nat.le_refl _) (.int .u64 (v:Int))).setCell (p:=⟨w.heap.size,1,none⟩) (Nat.le_refl _) (.string sn)).setCell (p:=⟨w.heap.size,2,none⟩) (Nat.le_refl _) (.int .u64 0)).setCell (p:=⟨w.heap.size,3,none⟩) (Nat.le_refl _) (.int .i64 1)).setCell (p:=⟨w.heap.size,4,none⟩) (Nat.le_refl _) (.slice none 0 0)
  go_wp2_with fail
  refine bodyPost_ret (k9.sizedT rfl _ rfl Tryz.underlying39 HI.out) rfl ⟨f9,⟨v,ns,0,1,[]⟩,rfl,?_,?_⟩
  ·rw[HNO.out,HSN.out];rfl
  rw[HNO.out];intro p hp;cases hp
 obtain rfl:u=n1:=huu n1 rfl
 have hpw:=HPW.out
 try simp only at hpw
 by_cases hu0:u=0
 ·rw[if_pos hu0] at hpw
  have HNO:=Lib.hid (show policyW (a::dy::r)=none from hpw)
  have l2:((u:Int)==0)=true:=by rw[beq_iff_eq];omega
  clear hpw huu
  obtain⟨c0,c1,c2,c3,c4⟩:_∧_∧_∧_∧_:=⟨kp.cell 0,kp.cell 1,kp.cell 2,kp.cell 3,kp.cell 4⟩
  obtain⟨r0,r1,r2,r3,r4⟩:_∧_∧_∧_∧_:=⟨kr.cell 0,kr.cell 1,kr.cell 2,kr.cell 3,kr.cell 4⟩
  obtain⟨z0,z1,z2,z3,z4⟩:_∧_∧_∧_∧_:=⟨kr.frozen 0,kr.frozen 1,kr.frozen 2,kr.frozen 3,kr.frozen 4⟩
  simp only[zPo,List.getElem?_cons_zero,List.getElem?_cons_succ] at c0 c1 c2 c3 c4 r0 r1 r2 r3 r4
  have k9:=((((kr.set 0 (.int .u64 (v:Int))).set 1 (.string sn)).set 2 (.int .u64 0)).set 3 (.int .i64 1)).set 4 (.slice none 0 0)
  have f9:=((((F6.setCell (p:=⟨w.heap.size,0,none⟩) (Nat.le_refl _) (.int .u64 (v:Int))).setCell (p:=⟨w.heap.size,1,none⟩) (Nat.le_refl _) (.string sn)).setCell (p:=⟨w.heap.size,2,none⟩) (Nat.le_refl _) (.int .u64 0)).setCell (p:=⟨w.heap.size,3,none⟩) (Nat.le_refl _) (.int .i64 1)).setCell (p:=⟨w.heap.size,4,none⟩) (Nat.le_refl _) (.slice none 0 0)
  go_wp2_with fail
  refine bodyPost_ret (k9.sizedT rfl _ rfl Tryz.underlying39 HI.out) rfl ⟨f9,⟨v,ns,0,1,[]⟩,rfl,?_,?_⟩
  ·rw[HNO.out,HSN.out];rfl
  rw[HNO.out];intro p hp;cases hp
 rw[if_neg hu0] at hpw
 have hpw2:policyW (a::dy::r)=if r4=[] then some ⟨v,ns,u,1,[]⟩ else none:=hpw
 have l2:((u:Int)==0)=false:=by rw[beq_eq_false_iff_ne];omega
 have l9:=HL9.out
 rw[List.length_cons] at l9
 have hr4:(((n8-2:Nat):Int)==0)=decide (r4=[]):=by
  have h1:n8-2=r4.length:=by omega
  rw[h1,Bool.eq_iff_iff]
  simp
 have hans:∀p,policyW (a::dy::r)=some p→(⟨v,ns,u,1,[]⟩:Po)=p:=fun p hp=>by
  rw[hpw2] at hp
  split at hp
  ·injection hp
  cases hp
 have hsome:(policyW (a::dy::r)).isSome=decide (r4=[]):=by
  rw[hpw2]
  by_cases h:r4=[]
  ·rw[if_pos h,decide_eq_true h];rfl
  rw[if_neg h,decide_eq_false h];rfl
 have HANS:=Lib.hid hans;have HSOME:=Lib.hid hsome
 obtain⟨q4,hq4⟩:∃z,decide (r4=[])=z:=⟨_,rfl⟩
 rw[hq4] at hr4
 have HQ4:=Lib.hid hq4
 have x2:=kp.cell 2
 have y2:=kp.frozen 2
 simp only[List.getElem?_cons_zero,List.getElem?_cons_succ] at x2
 have kp3:=kp.set 2 (.int .u64 (u:Int))
 have fB:=(Below.refl (w.heap.size+1) w6).setCell (p:=⟨w.heap.size+1,2,none⟩) (Nat.le_refl _) (.int .u64 (u:Int))
 have F7:=F6.setCell (p:=⟨w.heap.size+1,2,none⟩) (Nat.le_succ _) (.int .u64 (u:Int))
 have kr3:=kr.below fB (Nat.lt_succ_self _)
 clear hpw hpw2 huu hans hsome hq4 l9 fB hu0 kp kr
 go_upto_region 20 with fail
 generalize (if c8=2 then some (⟨b8,o8,none⟩:Addr) else some ⟨b8,o8+2,none⟩)=A9 at *
 all_goals
  clear x2 y2 F6
  refine abs (fun x=>Blk x (w.heap.size+1) 39 [.int .u64 (v:Int),.string sn,.int .u64 (u:Int),.int .i64 1,.slice none 0 0]∧Blk x w.heap.size 39 zPo∧Below w.heap.size w x) ⟨kp3,kr3,F7⟩ ?_
  clear kp3 kr3 F7
  rintro w8 ⟨kp,kr,F8⟩
  obtain⟨c0,c1,c2,c3,c4⟩:_∧_∧_∧_∧_:=⟨kp.cell 0,kp.cell 1,kp.cell 2,kp.cell 3,kp.cell 4⟩
  obtain⟨r0,r1,r2,r3,r4⟩:_∧_∧_∧_∧_:=⟨kr.cell 0,kr.cell 1,kr.cell 2,kr.cell 3,kr.cell 4⟩
  obtain⟨z0,z1,z2,z3,z4⟩:_∧_∧_∧_∧_:=⟨kr.frozen 0,kr.frozen 1,kr.frozen 2,kr.frozen 3,kr.frozen 4⟩
  simp only[zPo,List.getElem?_cons_zero,List.getElem?_cons_succ] at c0 c1 c2 c3 c4 r0 r1 r2 r3 r4
  have k9:=((((kr.set 0 (.int .u64 (v:Int))).set 1 (.string sn)).set 2 (.int .u64 (u:Int))).set 3 (.int .i64 1)).set 4 (.slice none 0 0)
  have f9:=((((F8.setCell (p:=⟨w.heap.size,0,none⟩) (Nat.le_refl _) (.int .u64 (v:Int))).setCell (p:=⟨w.heap.size,1,none⟩) (Nat.le_refl _) (.string sn)).setCell (p:=⟨w.heap.size,2,none⟩) (Nat.le_refl _) (.int .u64 (u:Int))).setCell (p:=⟨w.heap.size,3,none⟩) (Nat.le_refl _) (.int .i64 1)).setCell (p:=⟨w.heap.size,4,none⟩) (Nat.le_refl _) (.slice none 0 0)
  go_wp2_with fail
  refine bodyPost_ret (k9.sizedT rfl _ rfl Tryz.underlying39 HI.out) rfl ⟨f9,⟨v,ns,u,1,[]⟩,rfl,?_,?_⟩
  ·rw[HSOME.out,HQ4.out,HSN.out];rfl
  exact HANS.out
theorem pick_len{k:List UInt8}{ws:List (List UInt8)}(h:∀x∈ws,x.length≤1000000):(pickO k ws).1.length≤1000000∧∀x∈(pickO k ws).2,x.length≤1000000:=by
 unfold pickO
 rcases ws with _|⟨x,_|⟨y,r⟩⟩
 ·exact⟨by simp,h⟩
 ·exact⟨by simp,h⟩
 simp only
 split
 ·exact⟨h y (by simp),fun z hz=>h z (List.mem_cons_of_mem _ (List.mem_cons_of_mem _ hz))⟩
 exact⟨by simp,h⟩
theorem strC_rd{u:World}{g:Nat}{L:List (List UInt8)}(k:Blk u g 9 (strC L)):RdR sC 1 u u.heap.size (some ⟨g,0,none⟩) L.length L:=by
 refine⟨rfl,fun _=>⟨g,0,rfl,k.lt,fun j hj i v hv=>?_⟩⟩
 have hi:i=0:=by
  have:=(List.getElem?_eq_some_iff.1 hv).1
  have h1:(sC L[j]).length=1:=rfl
  omega
 subst hi
 rw[Nat.zero_add,Nat.mul_one,Nat.add_zero,k.cell]
 unfold strC
 rw[List.getElem?_map,List.getElem?_eq_getElem hj]
 exact hv
section
variable {α:Type} {enc:α→List Value} {k:Nat} {w w':World} {base e:Nat} {v:Value} {L:List α}
theorem OwnR.setLow(h:OwnR enc k w base e v L){p:Addr}(hp:p.block<base)(u:Value):OwnR enc k (w.setCell p u) base e v L :=
 ownsRow_move h fun b hb=>Below.heap_setCell w p u b (by have:=(h.lt b hb).1;omega)
theorem OwnR.typed(h:OwnR enc k w base e v L){b:Nat}(hb:v.ownBlock=some b):∃cur,w.heap[b]?=some (.cells cur e (0,0)):=ownsRow_typed h hb
theorem OwnR.other{e':Nat}(h:OwnR enc k w base e v L){row:Option Nat}(hg:w.grownBy w' row)(ht:∀b,row=some b→∃cur,w.heap[b]?=some (.cells cur e' (0,0)))(hne:e≠e'):OwnR enc k w' base e v L :=
 ownsRow_move h fun b hb=>hg.block b (h.lt b hb).2 fun e=>typed_ne (h.typed hb) (ht b e.symm) hne rfl
end
theorem Blk.setNe{w:World}{g t:Nat}{cs:List Value}(h:Blk w g t cs){p:Addr}(hp:g≠p.block)(u:Value):Blk (w.setCell p u) g t cs:=(Below.heap_setCell w p u g hp).trans h
theorem Blk.grownNe{w w':World}{g t:Nat}{cs:List Value}(h:Blk w g t cs){row:Option Nat}(hg:w.grownBy w' row)(hr:∀b,row=some b→b≠g):Blk w' g t cs:=(hg.block g h.lt fun e=>hr g e.symm rfl).trans h
theorem Blk.neT{w:World}{g g' t t':Nat}{cs cs':List Value}(h:Blk w g t cs)(h':Blk w g' t' cs')(hne:t≠t'):g≠g':=typed_ne ⟨_,h⟩ ⟨_,h'⟩ hne
theorem rRow_q(A:Option Addr)(n c:Nat)(tl:List (List UInt8))(word:List UInt8)(A2:Option Addr)(nk ck:Nat)(keys O rr:List (List UInt8))(w:World)(h:RdR sC 1 w w.heap.size A n (word::tl))(hn:n≤1000001)(h':RdR sC 1 w w.heap.size A2 nk keys)(hk:nk≤1000)(ho:rowO keys tl=(O,rr)) :
  Calls Tryz.prog 96 #[.slice A n c,.string (strB word),.slice A2 nk ck] w fun e w'=>Below w.heap.size w w'∧∃g,e=.returned (.tuple #[.slice (some ⟨g,0,none⟩) nk nk,.bool (decide (rr=[]))])∧w.heap.size≤g∧Blk w' g 9 (strC O):=by
 refine (rRow_any A n c (word::tl) word A2 nk ck keys w h hn h' hk).mono ?_
 rintro e w' ⟨f,hr⟩
 refine⟨f,?_⟩
 rcases hr with ⟨hne,_⟩|⟨_,g,he,hg,kg⟩
 ·exact absurd rfl hne
 have e1:(word::tl).tail=tl:=rfl
 rw[e1,ho] at kg
 have e2:(rowO keys (word::tl).tail).2=rr:=by rw[e1,ho]
 refine⟨g,?_,hg,kg⟩
 rw[he,←h'.1]
 simp only[e2]
def nilV:Value:=.slice none 0 0
def RowT(w:World)(base:Nat)(v:Value)(x:List UInt8):Prop:=(∃A n c,v=.slice A n c)∧∃L,listV readTm x=some L∧OwnR tmC 2 w base 42 v L
theorem RowT.nil{w:World}{base:Nat}:RowT w base nilV []:=⟨⟨none,0,0,rfl⟩,[],rfl,OwnR.nil⟩
theorem RowT.below{w w':World}{base:Nat}{v:Value}{x:List UInt8}(h:RowT w base v x)(hb:Below w.heap.size w w'):RowT w' base v x:=⟨h.1,by
 obtain⟨L,h1,h2⟩:=h.2
 exact⟨L,h1,h2.below (Nat.le_refl _) hb⟩⟩
theorem RowT.setLow{w:World}{base:Nat}{v:Value}{x:List UInt8}(h:RowT w base v x){p:Addr}(hp:p.block<base)(u:Value):RowT (w.setCell p u) base v x:=⟨h.1,by
 obtain⟨L,h1,h2⟩:=h.2
 exact⟨L,h1,h2.setLow hp u⟩⟩
theorem RowT.other{w w':World}{base e':Nat}{v:Value}{x:List UInt8}(h:RowT w base v x){row:Option Nat}(hg:w.grownBy w' row)(ht:∀b,row=some b→∃cur,w.heap[b]?=some (.cells cur e' (0,0)))(hne:42≠e'):RowT w' base v x:=⟨h.1,by
 obtain⟨L,h1,h2⟩:=h.2
 exact⟨L,h1,h2.other hg ht hne⟩⟩
theorem one_nrd{u:World}{g t:Nat}{a:Nt}(k:Blk u g t (ntC a))(hg:g<u.heap.size):RdR ntC 2 u u.heap.size (some ⟨g,0,none⟩) 1 [a]:=by
 refine⟨rfl,fun _=>⟨g,0,rfl,hg,fun j hj i v hv=>?_⟩⟩
 have hj0:j=0:=by simp at hj;exact hj
 subst hj0
 rw[Nat.zero_mul,Nat.zero_add,k.cell]
 exact hv
def SrcP(tl:List (List UInt8))(w:World)(e:Ending)(w':World):Prop:=Below w.heap.size w w'∧∃A1 n1 c1 A2 n2 c2 A3 n3 c3,e=.returned (.tuple #[.agg #[.slice A1 n1 c1,.slice A2 n2 c2,.slice A3 n3 c3],.bool (fromW tl).isSome]) ∧
 ∀s,fromW tl=some s→OwnR tmC 2 w' w.heap.size 42 (.slice A1 n1 c1) s.names∧OwnR tmC 2 w' w.heap.size 42 (.slice A2 n2 c2) s.spaces∧OwnR ntC 2 w' w.heap.size 85 (.slice A3 n3 c3) s.nets
set_option maxRecDepth 100000 in
set_option maxHeartbeats 16000000 in
theorem rSource_any(A:Option Addr)(n c:Nat)(tl:List (List UInt8))(w:World)(h:RdR sC 1 w w.heap.size A n (wFrom::tl))(hn:n≤1000001)(hsh:∀x∈tl,x.length≤1000000) :
  Calls Tryz.prog 58 #[.slice A n c] w fun e w'=>SrcP tl w e w':=by
 have HI:=Lib.hid (show (Tryz.prog.info? 56).map (·.size)=some 3 by kernel_rfl)
 obtain⟨wa,hwa⟩:∃x,w.alloc (.cells #[.slice none 0 0,.slice none 0 0,.slice none 0 0] 56)=x:=⟨_,rfl⟩
 have hga:wa.heap.size=w.heap.size+1:=by rw[←hwa];simp
 have f0:Below w.heap.size w wa:=by rw[←hwa];exact (Below.refl _ _).alloc (Nat.le_refl _) _
 have k0:Blk wa w.heap.size 56 [nilV,nilV,nilV]:=by rw[←hwa];exact Blk.newAt rfl _ _
 obtain⟨wb,hwb⟩:∃x,wa.alloc (.cells #[.slice none 0 0,.slice none 0 0,.slice none 0 0] 56)=x:=⟨_,rfl⟩
 have hgb:wb.heap.size=w.heap.size+1+1:=by rw[←hwb];simp[hga]
 have fb:Below w.heap.size w wb:=by rw[←hwb];exact f0.alloc f0.size _
 have kr:Blk wb w.heap.size 56 [nilV,nilV,nilV]:=by rw[←hwb];exact k0.alloc _
 have kp:Blk wb (w.heap.size+1) 56 [nilV,nilV,nilV]:=by rw[←hwb,←hga];exact Blk.newAt rfl _ _
 obtain⟨wk,hwk⟩:∃x,wb.alloc (.cells #[.string ⟨#[110,97,109,101,115]⟩,.string ⟨#[115,112,97,99,101,115]⟩,.string ⟨#[110,101,116,115]⟩] 9)=x:=⟨_,rfl⟩
 have kk:Blk wk (w.heap.size+1+1) 9 (strC [wNames,wSpaces,wNets]):=by rw[←hwk,←hgb];exact Blk.newAt rfl _ _
 have fk:Below w.heap.size w wk:=by rw[←hwk];exact fb.alloc fb.size _
 replace kr:Blk wk w.heap.size 56 [nilV,nilV,nilV]:=by rw[←hwk];exact kr.alloc _
 replace kp:Blk wk (w.heap.size+1) 56 [nilV,nilV,nilV]:=by rw[←hwk];exact kp.alloc _
 have hout:rowO [wNames,wSpaces,wNets] tl=([(pickO wNames tl).1,(pickO wSpaces (pickO wNames tl).2).1,(pickO wNets (pickO wSpaces (pickO wNames tl).2).2).1],(pickO wNets (pickO wSpaces (pickO wNames tl).2).2).2):=rfl
 have hrow:=rRow_q A n c tl wFrom (some ⟨w.heap.size+1+1,0,none⟩) 3 3 [wNames,wSpaces,wNets] _ _ wk ((h.below fk).more fk.size) hn (strC_rd kk) (by omega) hout
 have hfw:fromW tl=if (pickO wNets (pickO wSpaces (pickO wNames tl).2).2).2=[] then
  match listV readTm (pickO wNames tl).1 with
  | none=>none
  | some a=>match listV readTm (pickO wSpaces (pickO wNames tl).2).1 with
   | none=>none
   | some b=>match listV parseNetA (pickO wNets (pickO wSpaces (pickO wNames tl).2).2).1 with
    | none=>none
    | some c=>some ⟨a,b,c⟩
  else none:=rfl
 have hx0:=pick_len (k:=wNames) hsh
 have hx1:=pick_len (k:=wSpaces) hx0.2
 have hx2:=pick_len (k:=wNets) hx1.2
 generalize (pickO wNames tl).1=x0 at *
 generalize (pickO wSpaces (pickO wNames tl).2).1=x1 at *
 generalize (pickO wNets (pickO wSpaces (pickO wNames tl).2).2).1=x2 at *
 generalize (pickO wNets (pickO wSpaces (pickO wNames tl).2).2).2=rr at *
 have l0:=hx0.1
 have l1:=hx1.1
 have l2:=hx2.1
 obtain⟨fw,hfw2⟩:∃y,fromW tl=y:=⟨_,rfl⟩
 have HFW2:=Lib.hid hfw2
 rw[hfw2] at hfw
 have HFW:=Lib.hid hfw
 obtain⟨rk,hrk⟩:∃y,decide (rr=[])=y:=⟨_,rfl⟩
 have HRK:=Lib.hid hrk
 clear hout hfw hx0 hx1 hx2 kk k0 f0 fb h hsh hfw2
 rw[hrk] at hrow
 clear hrk
 go_enter Tryz.func58,Tryz.ntmps58
 go_wp2_with fail
 refine hrow.mono ?_
 rintro e w1 ⟨f1,g,rfl,hgg,kg⟩
 have F1:=fk.trans (f1.mono fk.size)
 replace kp:=kp.below f1 kp.lt
 replace kr:=kr.below f1 kr.lt
 have hgb2:w.heap.size+1<g:=by
  have:wk.heap.size=wb.heap.size+1:=by rw[←hwk];simp
  omega
 clear hrow f1 hwk hwb hwa hga hgb fk
 go_wp2_with fail
 go_loopw [7,6] (fun v7 v6 wr=>∃(i:Nat)(ok:Bool)(u1 u2:Value),v7=.int .i64 (i:Int)∧v6=.bool ok∧i≤2∧Blk wr (w.heap.size+1) 56 [u1,u2,nilV]∧Blk wr w.heap.size 56 [nilV,nilV,nilV]∧Blk wr g 9 (strC [x0,x1,x2])∧Below w.heap.size w wr∧(∃A n c,u1=.slice A n c)∧(∃A n c,u2=.slice A n c)∧((ok=false∧fw=none)∨(ok=true∧rk=true∧((i=0∧u1=nilV∧u2=nilV)∨(i=1∧RowT wr (w.heap.size+1+1) u1 x0∧u2=nilV)∨(i=2∧RowT wr (w.heap.size+1+1) u1 x0∧RowT wr (w.heap.size+1+1) u2 x1))))) (fun v7 _ _=>3-(intOf v7).toNat)
 case atStart =>
  refine⟨0,rk,nilV,nilV,rfl,rfl,by omega,kp,kr,kg,F1,⟨none,0,0,rfl⟩,⟨none,0,0,rfl⟩,?_⟩
  rcases rk with _|_
  ·exact .inl ⟨rfl,by rw[HFW.out,if_neg (of_decide_eq_false HRK.out)]⟩
  exact .inr ⟨rfl,rfl,.inl ⟨rfl,rfl,rfl⟩⟩
 case round =>
  clear kp kr kg F1
  obtain⟨i,ok,u1,u2,rfl,rfl,hi2,kp,kr,kg,F2,hu1,hu2,hst⟩:=hrel
  obtain⟨A1,n1,c1,rfl⟩:=hu1
  obtain⟨A2,n2,c2,rfl⟩:=hu2
  rcases hst with ⟨rfl,hfn⟩|⟨rfl,hrk1,hst⟩
  ·obtain⟨q,hq⟩:∃q,decide ((i:Int)<2)=q:=⟨_,rfl⟩
   rcases q with _|_
   all_goals
    have HFN:=Lib.hid hfn
    clear hfn
    obtain⟨c0,c1',c2'⟩:_∧_∧_:=⟨kp.cell 0,kp.cell 1,kp.cell 2⟩
    obtain⟨r0,r1,r2⟩:_∧_∧_:=⟨kr.cell 0,kr.cell 1,kr.cell 2⟩
    obtain⟨z0,z1,z2⟩:_∧_∧_:=⟨kr.frozen 0,kr.frozen 1,kr.frozen 2⟩
    simp only[nilV,List.getElem?_cons_zero,List.getElem?_cons_succ] at c0 c1' c2' r0 r1 r2
    have k9:=((kr.set 0 (.slice A1 n1 c1)).set 1 (.slice A2 n2 c2)).set 2 (.slice none 0 0)
    have f9:=((F2.setCell (p:=⟨w.heap.size,0,none⟩) (Nat.le_refl _) (.slice A1 n1 c1)).setCell (p:=⟨w.heap.size,1,none⟩) (Nat.le_refl _) (.slice A2 n2 c2)).setCell (p:=⟨w.heap.size,2,none⟩) (Nat.le_refl _) (.slice none 0 0)
    go_wp2_with fail
    refine bodyPost_ret (k9.sizedT rfl _ rfl Tryz.underlying56 HI.out) rfl ⟨f9,A1,n1,c1,A2,n2,c2,none,0,0,?_,?_⟩
    ·rw[HFW2.out,HFN.out];rfl
    rw[HFW2.out,HFN.out];intro s hs;cases hs
  have HRK1:=Lib.hid hrk1;clear hrk1
  rcases hst with ⟨rfl,h1,h2⟩|⟨rfl,hr1,h2⟩|⟨rfl,hr1,hr2⟩
  ·injection h1 with h1 h1b h1c
   subst h1 h1b h1c
   injection h2 with h2 h2b h2c
   subst h2 h2b h2c
   have e0:=kg.cell 0
   simp only[strC,List.map_cons,List.map_nil,List.getElem?_cons_zero,List.getElem?_cons_succ] at e0
   have hxe:(strB x0).toList.isEmpty=x0.isEmpty:=by rw[strB_toList]
   by_cases hx:x0=[]
   ·have hxe2:(strB x0).toList.isEmpty=true:=by rw[hxe,hx];rfl
    have hrw:RowT wr (w.heap.size+1+1) nilV x0:=by rw[hx];exact RowT.nil
    clear hxe hx
    have kp3:=kp;have kr3:=kr;have kg3:=kg
    have KG:=Lib.hid kg3
    clear kg kg3
    generalize strB x0=sx at *
    go_wp2_with fail
    go_roundw
    case rel=>exact⟨1,true,.slice none 0 0,.slice none 0 0,by go_num,rfl,by omega,kp3,kr3,KG.out,F2,⟨_,_,_,rfl⟩,⟨_,_,_,rfl⟩,.inr ⟨rfl,HRK1.out,.inr (.inl ⟨rfl,hrw,rfl⟩)⟩⟩
    case measure=>simp[intOf]
   have hxe2:(strB x0).toList.isEmpty=false:=by rw[hxe];simpa using hx
   have hT:=rTermsOf_any x0 l0 wr
   obtain⟨o,ho⟩:∃o,mapO readTm (spl 44 x0)=o:=⟨_,rfl⟩
   have hlv:listV readTm x0=o:=by unfold listV;rw[if_neg hx];exact ho
   rw[ho] at hT
   have HLV:=Lib.hid hlv
   have KG:=Lib.hid kg
   obtain⟨sx,hsx⟩:∃y,strB x0=y:=⟨_,rfl⟩
   rw[hsx] at hT e0 hxe2
   clear hxe hx ho hlv hsx kg
   unfold TermsP at hT
   rcases o with _|L
   ·go_wp2_with fail
    refine hT.mono ?_
    rintro e w3 ⟨f3,rfl⟩
    have hno:fw=none:=by
     rw[HFW.out]
     split
     ·rw[HLV.out]
     rfl
    have HNO:=Lib.hid hno
    have kg3:=KG.out.below f3 KG.out.lt
    replace kp:=kp.below f3 kp.lt
    replace kr:=kr.below f3 kr.lt
    have F3:=F2.trans (f3.mono F2.size)
    have x0':=kp.cell 0
    have y0':=kp.frozen 0
    simp only[List.getElem?_cons_zero,List.getElem?_cons_succ] at x0'
    have kp3:=kp.set 0 (.slice none 0 0)
    have kr3:=kr.setNe (p:=⟨w.heap.size+1,0,none⟩) (by show w.heap.size≠w.heap.size+1;omega) (.slice none 0 0)
    have hgn:g≠w.heap.size+1:=by omega
    replace kg3:=kg3.setNe (p:=⟨w.heap.size+1,0,none⟩) hgn (.slice none 0 0)
    have F4:=F3.setCell (p:=⟨w.heap.size+1,0,none⟩) (Nat.le_succ _) (.slice none 0 0)
    clear hT e0 hno f3 hgn kp kr
    have KG3:=Lib.hid kg3
    clear kg3
    go_wp2_with fail
    go_roundw
    case rel=>exact⟨1,false,.slice none 0 0,.slice none 0 0,by go_num,rfl,by omega,kp3,kr3,KG3.out,F4,⟨none,0,0,rfl⟩,⟨none,0,0,rfl⟩,.inl ⟨rfl,HNO.out⟩⟩
    case measure=>simp[intOf]
   go_wp2_with fail
   refine hT.mono ?_
   rintro e w3 ⟨f3,A5,c5,rfl,o5⟩
   have kg3:=KG.out.below f3 KG.out.lt
   skip
   have hbs:w.heap.size+1<wr.heap.size:=kp.lt
   replace kp:=kp.below f3 kp.lt
   replace kr:=kr.below f3 kr.lt
   have F3:=F2.trans (f3.mono F2.size)
   have x0':=kp.cell 0
   have y0':=kp.frozen 0
   simp only[List.getElem?_cons_zero,List.getElem?_cons_succ] at x0'
   have kp3:=kp.set 0 (.slice A5 L.length c5)
   have kr3:=kr.setNe (p:=⟨w.heap.size+1,0,none⟩) (by show w.heap.size≠w.heap.size+1;omega) (.slice A5 L.length c5)
   have hgn:g≠w.heap.size+1:=by omega
   replace kg3:=kg3.setNe (p:=⟨w.heap.size+1,0,none⟩) hgn (.slice A5 L.length c5)
   have F4:=F3.setCell (p:=⟨w.heap.size+1,0,none⟩) (Nat.le_succ _) (.slice A5 L.length c5)
   have hrw:RowT (w3.setCell ⟨w.heap.size+1,0,none⟩ (.slice A5 L.length c5)) (w.heap.size+1+1) (.slice A5 L.length c5) x0:=⟨⟨_,_,_,rfl⟩,L,HLV.out,(o5.base_le (show w.heap.size+1+1≤wr.heap.size from hbs)).setLow (Nat.lt_succ_self _) _⟩
   skip
   have KG3:=Lib.hid kg3
   clear hT e0 f3 hgn kp kr kg3 o5 hbs
   go_wp2_with fail
   go_roundw
   case rel=>exact⟨1,true,.slice A5 L.length c5,.slice none 0 0,by go_num,rfl,by omega,kp3,kr3,KG3.out,F4,⟨_,_,_,rfl⟩,⟨_,_,_,rfl⟩,.inr ⟨rfl,HRK1.out,.inr (.inl ⟨rfl,hrw,rfl⟩)⟩⟩
   case measure=>simp[intOf]
  ·injection h2 with h2 h2b h2c
   subst h2 h2b h2c
   have e0:=kg.cell 1
   simp only[strC,List.map_cons,List.map_nil,List.getElem?_cons_zero,List.getElem?_cons_succ] at e0
   have hxe:(strB x1).toList.isEmpty=x1.isEmpty:=by rw[strB_toList]
   by_cases hx:x1=[]
   ·have hxe2:(strB x1).toList.isEmpty=true:=by rw[hxe,hx];rfl
    have hrw:RowT wr (w.heap.size+1+1) nilV x1:=by rw[hx];exact RowT.nil
    clear hxe hx
    have kp3:=kp;have kr3:=kr;have kg3:=kg
    have KG:=Lib.hid kg3
    clear kg kg3
    generalize strB x1=sx at *
    go_wp2_with fail
    go_roundw
    case rel=>exact⟨2,true,.slice A1 n1 c1,.slice none 0 0,by go_num,rfl,by omega,kp3,kr3,KG.out,F2,⟨_,_,_,rfl⟩,⟨_,_,_,rfl⟩,.inr ⟨rfl,HRK1.out,.inr (.inr ⟨rfl,hr1,hrw⟩)⟩⟩
    case measure=>simp[intOf]
   have hxe2:(strB x1).toList.isEmpty=false:=by rw[hxe];simpa using hx
   have hT:=rTermsOf_any x1 l1 wr
   obtain⟨o,ho⟩:∃o,mapO readTm (spl 44 x1)=o:=⟨_,rfl⟩
   have hlv:listV readTm x1=o:=by unfold listV;rw[if_neg hx];exact ho
   rw[ho] at hT
   have HLV:=Lib.hid hlv
   have KG:=Lib.hid kg
   obtain⟨sx,hsx⟩:∃y,strB x1=y:=⟨_,rfl⟩
   rw[hsx] at hT e0 hxe2
   clear hxe hx ho hlv hsx kg
   unfold TermsP at hT
   rcases o with _|L
   ·go_wp2_with fail
    refine hT.mono ?_
    rintro e w3 ⟨f3,rfl⟩
    have hno:fw=none:=by
     rw[HFW.out]
     split
     ·rcases listV readTm x0 with _|a
      ·rfl
      simp only[HLV.out]
     rfl
    have HNO:=Lib.hid hno
    have kg3:=KG.out.below f3 KG.out.lt
    replace kp:=kp.below f3 kp.lt
    replace kr:=kr.below f3 kr.lt
    have F3:=F2.trans (f3.mono F2.size)
    have x0':=kp.cell 1
    have y0':=kp.frozen 1
    simp only[List.getElem?_cons_zero,List.getElem?_cons_succ] at x0'
    have kp3:=kp.set 1 (.slice none 0 0)
    have kr3:=kr.setNe (p:=⟨w.heap.size+1,1,none⟩) (by show w.heap.size≠w.heap.size+1;omega) (.slice none 0 0)
    have hgn:g≠w.heap.size+1:=by omega
    replace kg3:=kg3.setNe (p:=⟨w.heap.size+1,1,none⟩) hgn (.slice none 0 0)
    have F4:=F3.setCell (p:=⟨w.heap.size+1,1,none⟩) (Nat.le_succ _) (.slice none 0 0)
    clear hT e0 hno f3 hgn kp kr
    have KG3:=Lib.hid kg3
    clear kg3
    go_wp2_with fail
    go_roundw
    case rel=>exact⟨2,false,.slice A1 n1 c1,.slice none 0 0,by go_num,rfl,by omega,kp3,kr3,KG3.out,F4,⟨_,_,_,rfl⟩,⟨none,0,0,rfl⟩,.inl ⟨rfl,HNO.out⟩⟩
    case measure=>simp[intOf]
   go_wp2_with fail
   refine hT.mono ?_
   rintro e w3 ⟨f3,A5,c5,rfl,o5⟩
   have kg3:=KG.out.below f3 KG.out.lt
   replace hr1:=hr1.below f3
   have hbs:w.heap.size+1<wr.heap.size:=kp.lt
   replace kp:=kp.below f3 kp.lt
   replace kr:=kr.below f3 kr.lt
   have F3:=F2.trans (f3.mono F2.size)
   have x0':=kp.cell 1
   have y0':=kp.frozen 1
   simp only[List.getElem?_cons_zero,List.getElem?_cons_succ] at x0'
   have kp3:=kp.set 1 (.slice A5 L.length c5)
   have kr3:=kr.setNe (p:=⟨w.heap.size+1,1,none⟩) (by show w.heap.size≠w.heap.size+1;omega) (.slice A5 L.length c5)
   have hgn:g≠w.heap.size+1:=by omega
   replace kg3:=kg3.setNe (p:=⟨w.heap.size+1,1,none⟩) hgn (.slice A5 L.length c5)
   have F4:=F3.setCell (p:=⟨w.heap.size+1,1,none⟩) (Nat.le_succ _) (.slice A5 L.length c5)
   have hrw:RowT (w3.setCell ⟨w.heap.size+1,1,none⟩ (.slice A5 L.length c5)) (w.heap.size+1+1) (.slice A5 L.length c5) x1:=⟨⟨_,_,_,rfl⟩,L,HLV.out,(o5.base_le (show w.heap.size+1+1≤wr.heap.size from hbs)).setLow (Nat.lt_succ_self _) _⟩
   replace hr1:=hr1.setLow (p:=⟨w.heap.size+1,1,none⟩) (Nat.lt_succ_self _) (.slice A5 L.length c5)
   have KG3:=Lib.hid kg3
   clear hT e0 f3 hgn kp kr kg3 o5 hbs
   go_wp2_with fail
   go_roundw
   case rel=>exact⟨2,true,.slice A1 n1 c1,.slice A5 L.length c5,by go_num,rfl,by omega,kp3,kr3,KG3.out,F4,⟨_,_,_,rfl⟩,⟨_,_,_,rfl⟩,.inr ⟨rfl,HRK1.out,.inr (.inr ⟨rfl,hr1,hrw⟩)⟩⟩
   case measure=>simp[intOf]
  obtain⟨_,L1,hl1,o1⟩:=hr1
  obtain⟨_,L2,hl2,o2⟩:=hr2
  have e2:=kg.cell 2
  simp only[strC,List.map_cons,List.map_nil,List.getElem?_cons_zero,List.getElem?_cons_succ] at e2
  have hbl:w.heap.size<w.heap.size+1+1:=by omega
  have hrr:=of_decide_eq_true (HRK.out.trans HRK1.out)
  have hfw3:fw=match listV parseNetA x2 with
    | none=>none
    | some c=>some ⟨L1,L2,c⟩:=by
   rw[HFW.out,if_pos hrr,hl1]
   simp only[hl2]
  have HFW3:=Lib.hid hfw3
  clear hfw3 hrr hl1 hl2
  have hxe:(strB x2).toList.isEmpty=x2.isEmpty:=by rw[strB_toList]
  by_cases hx:x2=[]
  ·have hxe2:(strB x2).toList.isEmpty=true:=by rw[hxe,hx];rfl
   have HFS:=Lib.hid (show fw=some ⟨L1,L2,[]⟩ by rw[HFW3.out,hx];rfl)
   have hrkt:=HRK1.out
   clear hxe hx kg
   generalize strB x2=sx at *
   obtain⟨c0,c1',c2'⟩:_∧_∧_:=⟨kp.cell 0,kp.cell 1,kp.cell 2⟩
   obtain⟨r0,r1,r2⟩:_∧_∧_:=⟨kr.cell 0,kr.cell 1,kr.cell 2⟩
   obtain⟨z0,z1,z2⟩:_∧_∧_:=⟨kr.frozen 0,kr.frozen 1,kr.frozen 2⟩
   simp only[nilV,List.getElem?_cons_zero,List.getElem?_cons_succ] at c0 c1' c2' r0 r1 r2
   have k9:=((kr.set 0 (.slice A1 n1 c1)).set 1 (.slice A2 n2 c2)).set 2 (.slice none 0 0)
   have f9:=((F2.setCell (p:=⟨w.heap.size,0,none⟩) (Nat.le_refl _) (.slice A1 n1 c1)).setCell (p:=⟨w.heap.size,1,none⟩) (Nat.le_refl _) (.slice A2 n2 c2)).setCell (p:=⟨w.heap.size,2,none⟩) (Nat.le_refl _) (.slice none 0 0)
   go_wp2_with fail
   refine bodyPost_ret (k9.sizedT rfl _ rfl Tryz.underlying56 HI.out) rfl ⟨f9,A1,n1,c1,A2,n2,c2,none,0,0,?_,?_⟩
   ·rw[HFW2.out,HFS.out];rfl
   rw[HFW2.out,HFS.out]
   intro s hs
   injection hs with hs
   subst hs
   exact⟨(((o1.setLow (p:=⟨w.heap.size,0,none⟩) hbl _).setLow (p:=⟨w.heap.size,1,none⟩) hbl _).setLow (p:=⟨w.heap.size,2,none⟩) hbl _).base_le (by omega),(((o2.setLow (p:=⟨w.heap.size,0,none⟩) hbl _).setLow (p:=⟨w.heap.size,1,none⟩) hbl _).setLow (p:=⟨w.heap.size,2,none⟩) hbl _).base_le (by omega),OwnR.nil⟩
  have hxe2:(strB x2).toList.isEmpty=false:=by rw[hxe];simpa using hx
  have hcut:=rCut_any x2 44 l2 wr
  rw[show ((44:UInt8).toNat:Int)=44 from rfl] at hcut
  have hlen:=spl_len 44 x2
  have hml:=spl_mem_len 44 x2
  have hlv:listV parseNetA x2=mapO parseNetA (spl 44 x2):=by unfold listV;rw[if_neg hx]
  obtain⟨P,hP⟩:∃P,spl 44 x2=P:=⟨_,rfl⟩
  rw[hP] at hcut hlen hml hlv
  have HLV:=Lib.hid hlv
  have HML:=Lib.hid hml
  clear hxe hx kg hP hlv hml
  generalize strB x2=sx at *
  go_wp2_with fail
  refine hcut.mono ?_
  rintro e w3 ⟨Ap,np,cp,rfl,op,f3⟩
  have hbs:w.heap.size+1+1≤wr.heap.size:=kp.lt
  replace op:=op.base_le hbs
  replace o1:=o1.below (Nat.le_refl _) f3
  replace o2:=o2.below (Nat.le_refl _) f3
  replace kp:=kp.below f3 kp.lt
  replace kr:=kr.below f3 kr.lt
  have F3:=F2.trans (f3.mono F2.size)
  have hnp:=op.len
  clear hcut e2 f3 hbs F2
  go_wp2_with fail
  go_loopw [11] (fun v11 wr=>∃(i:Nat)(A3:Option Addr)(n3 c3:Nat)(L3:List Nt),v11=.int .i64 (i:Int)∧i≤np∧Blk wr (w.heap.size+1) 56 [.slice A1 n1 c1,.slice A2 n2 c2,.slice A3 n3 c3]∧Blk wr w.heap.size 56 [nilV,nilV,nilV]∧Below w.heap.size w wr∧n3=i∧mapO parseNetA (P.take i)=some L3∧OwnR ntC 2 wr (w.heap.size+1+1) 85 (.slice A3 n3 c3) L3∧OwnR tmC 2 wr (w.heap.size+1+1) 42 (.slice A1 n1 c1) L1∧OwnR tmC 2 wr (w.heap.size+1+1) 42 (.slice A2 n2 c2) L2∧OwnR sC 1 wr (w.heap.size+1+1) 9 (.slice Ap np cp) P) (fun v11 _=>np-(intOf v11).toNat)
  case atStart=>exact⟨0,none,0,0,[],rfl,by omega,kp,kr,F3,rfl,rfl,OwnR.nil,o1,o2,op⟩
  case round =>
   clear kp kr F3 o1 o2 op
   obtain⟨i,A3,n3,c3,L3,rfl,hi,kp,kr,F2,hn3,hmp,o3,o1,o2,op⟩:=hrel
   have hcap:=o3.cap
   by_cases hlt:i<np
   ·have d5:decide ((i:Int)<(np:Int))=true:=by simp;omega
    have b1:(0:Int)≤(i:Int):=by omega
    have b2:(i:Int)<(np:Int):=by omega
    have hiP:i<P.length:=by omega
    obtain⟨b,off,hAp,hb,hcell⟩:=(op.rd sC_len).2 (by omega)
    have g0:=hcell i hiP 0 _ rfl
    rw[Nat.add_zero,Nat.mul_one] at g0
    have hxl:=HML.out _ (List.getElem_mem hiP)
    have hst:=mapO_take hiP hmp
    obtain⟨x,hx⟩:∃x,P[i]=x:=⟨_,rfl⟩
    rw[hx] at hxl hst
    replace g0:wr.cell? ⟨b,off+i,none⟩=some (.string (strB x)):=by rw[←hx];exact g0
    clear hx hcell
    subst hAp
    have hcl:=refParseNet_any x (by omega) wr
    obtain⟨h1,h2⟩:=hst
    have H1:=Lib.hid h1;have H2:=Lib.hid h2
    have hn6:n3≤1000001:=by omega
    have HN3:=Lib.hid hn3
    clear h1 h2 hmp hn3
    generalize strB x=sy at *
    rcases hr:parseNetA x with _|t
    ·rw[hr] at hcl
     have HFN:=Lib.hid (show fw=none by rw[HFW3.out,HLV.out,H2.out hr])
     clear hr
     unfold pnV ntV at hcl
     go_wp2_with fail
     refine hcl.mono ?_
     rintro e w4 ⟨rfl,f4⟩
     replace kr:=(kr.below f4 kr.lt).alloc (.cells #[.int .u32 0,.int .i64 0] 85)
     replace F2:=(F2.trans (f4.mono F2.size)).alloc (by have:=F2.size;have:=f4.size;omega) (.cells #[.int .u32 0,.int .i64 0] 85)
     replace kp:=(kp.below f4 kp.lt).alloc (.cells #[.int .u32 0,.int .i64 0] 85)
     clear hcl g0 f4 o1 o2 o3 op
     obtain⟨c0,c1',c2'⟩:_∧_∧_:=⟨kp.cell 0,kp.cell 1,kp.cell 2⟩
     obtain⟨r0,r1,r2⟩:_∧_∧_:=⟨kr.cell 0,kr.cell 1,kr.cell 2⟩
     obtain⟨z0,z1,z2⟩:_∧_∧_:=⟨kr.frozen 0,kr.frozen 1,kr.frozen 2⟩
     simp only[nilV,List.getElem?_cons_zero,List.getElem?_cons_succ] at c0 c1' c2' r0 r1 r2
     have k9:=((kr.set 0 (.slice none 0 0)).set 1 (.slice none 0 0)).set 2 (.slice none 0 0)
     have f9:=((F2.setCell (p:=⟨w.heap.size,0,none⟩) (Nat.le_refl _) (.slice none 0 0)).setCell (p:=⟨w.heap.size,1,none⟩) (Nat.le_refl _) (.slice none 0 0)).setCell (p:=⟨w.heap.size,2,none⟩) (Nat.le_refl _) (.slice none 0 0)
     go_wp2_with fail
     refine bodyPost_ret (k9.sizedT rfl _ rfl Tryz.underlying56 HI.out) rfl ⟨f9,none,0,0,none,0,0,none,0,0,?_,?_⟩
     ·rw[HFW2.out,HFN.out];rfl
     rw[HFW2.out,HFN.out];intro s hs;cases hs
    rw[hr] at hcl
    have HN:=Lib.hid (H1.out t hr)
    clear hr
    obtain⟨ta,tb⟩:=t
    unfold pnV ntV at hcl
    simp only at hcl
    go_wp2_with fail
    refine hcl.mono ?_
    rintro e w4 ⟨rfl,f4⟩
    obtain⟨w5,hw5⟩:∃y,w4.alloc (.cells #[.int .u32 (ta:Int),.int .i64 tb] 85)=y:=⟨_,rfl⟩
    obtain⟨w6,hw6⟩:∃y,w5.alloc (.cells #[.int .u32 (ta:Int),.int .i64 tb] 85)=y:=⟨_,rfl⟩
    have fo:Below wr.heap.size wr w6:=by rw[←hw6,←hw5];exact (f4.alloc f4.size _).alloc (by have:=f4.size;simp;omega) _
    have k5:Blk w5 w4.heap.size 85 [.int .u32 (ta:Int),.int .i64 tb]:=by rw[←hw5];exact Blk.newAt rfl _ _
    have k6:Blk w6 w5.heap.size 85 (ntC (ta,tb)):=by unfold ntC;rw[←hw6];exact Blk.newAt rfl _ _
    have c0:=k5.cell 0
    have c1':=k5.cell 1
    simp only[List.getElem?_cons_zero,List.getElem?_cons_succ] at c0 c1'
    have kp5:Blk w5 (w.heap.size+1) 56 [.slice A1 n1 c1,.slice A2 n2 c2,.slice A3 n3 c3]:=by rw[←hw5];exact (kp.below f4 kp.lt).alloc _
    have s2:=kp5.cell 2
    simp only[List.getElem?_cons_zero,List.getElem?_cons_succ] at s2
    have kp6:=kp.below fo kp.lt
    have kr6:=kr.below fo kr.lt
    have F6:=F2.trans (fo.mono F2.size)
    have o36:=o3.below (Nat.le_refl _) fo
    have o16:=o1.below (Nat.le_refl _) fo
    have o26:=o2.below (Nat.le_refl _) fo
    have op6:=op.below (Nat.le_refl _) fo
    have r6:=one_nrd k6 k6.lt
    have hbase:w.heap.size+1+1≤w6.heap.size:=Nat.le_trans kp.lt fo.size
    have fself:=Below.refl (w.heap.size+1+1) w6
    clear hcl g0 f4 k5 k6 o1 o2 o3 op kp kr F2 fo kp5
    go_wp2_with (first|(at_builtin;go_must (refine appendRow ZNt ntC_len ntC_one rfl rfl rfl o36 rfl r6 (by omega) (by simp only[maxLen];omega) fself hbase ?_);intro A7 c7 w7 o7 f7 g7;have hne7:∀q,(Value.slice A3 n3 c3).ownBlock=some q→q≠w.heap.size+1:=(fun q hq=>by have:=(o36.lt q hq).1;omega);have kp7:=kp6.grownNe g7 hne7;have s7:=kp7.cell 2;have z7:=kp7.frozen 2;simp only[List.getElem?_cons_zero,List.getElem?_cons_succ] at s7))
    have ht7:∀q,(Value.slice A3 n3 c3).ownBlock=some q→∃cur,w6.heap[q]?=some (.cells cur 85 (0,0)):=fun q hq=>o36.typed hq
    have kr7:=kr6.grownNe g7 (fun q hq=>by have:=(o36.lt q hq).1;omega)
    have F7:=F6.grown g7 F6.size (fun q hq=>by have:=(o36.lt q hq).1;omega)
    have o17:=o16.other g7 ht7 (by decide)
    have o27:=o26.other g7 ht7 (by decide)
    have op7:=op6.other g7 ht7 (by decide)
    clear g7 ht7 hne7 o36 o16 o26 op6 kp6 kr6 F6 f7 r6 fself hbase
    go_roundw
    case rel=>exact⟨i+1,A7,n3+1,c7,L3++[(ta,tb)],by go_num,by omega,kp7.set 2 _,kr7.setNe (p:=⟨w.heap.size+1,2,none⟩) (by show w.heap.size≠w.heap.size+1;omega) _,F7.setCell (p:=⟨w.heap.size+1,2,none⟩) (Nat.le_succ _) _,by have:=HN3.out;omega,HN.out,o7.setLow (p:=⟨w.heap.size+1,2,none⟩) (Nat.lt_succ_self _) _,o17.setLow (p:=⟨w.heap.size+1,2,none⟩) (Nat.lt_succ_self _) _,o27.setLow (p:=⟨w.heap.size+1,2,none⟩) (Nat.lt_succ_self _) _,op7.setLow (p:=⟨w.heap.size+1,2,none⟩) (Nat.lt_succ_self _) _⟩
    case measure=>simp[intOf];omega
   have d5:decide ((i:Int)<(np:Int))=false:=by simp;omega
   have hin:i=P.length:=by omega
   rw[hin,List.take_length] at hmp
   have HFS:=Lib.hid (show fw=some ⟨L1,L2,L3⟩ by rw[HFW3.out,HLV.out,hmp])
   have hrkt:=HRK1.out
   clear hmp hin hn3
   obtain⟨c0,c1',c2'⟩:_∧_∧_:=⟨kp.cell 0,kp.cell 1,kp.cell 2⟩
   obtain⟨r0,r1,r2⟩:_∧_∧_:=⟨kr.cell 0,kr.cell 1,kr.cell 2⟩
   obtain⟨z0,z1,z2⟩:_∧_∧_:=⟨kr.frozen 0,kr.frozen 1,kr.frozen 2⟩
   simp only[nilV,List.getElem?_cons_zero,List.getElem?_cons_succ] at c0 c1' c2' r0 r1 r2
   have k9:=((kr.set 0 (.slice A1 n1 c1)).set 1 (.slice A2 n2 c2)).set 2 (.slice A3 n3 c3)
   have f9:=((F2.setCell (p:=⟨w.heap.size,0,none⟩) (Nat.le_refl _) (.slice A1 n1 c1)).setCell (p:=⟨w.heap.size,1,none⟩) (Nat.le_refl _) (.slice A2 n2 c2)).setCell (p:=⟨w.heap.size,2,none⟩) (Nat.le_refl _) (.slice A3 n3 c3)
   go_wp2_with fail
   refine bodyPost_ret (k9.sizedT rfl _ rfl Tryz.underlying56 HI.out) rfl ⟨f9,A1,n1,c1,A2,n2,c2,A3,n3,c3,?_,?_⟩
   ·rw[HFW2.out,HFS.out];rfl
   rw[HFW2.out,HFS.out]
   intro s hs
   injection hs with hs
   subst hs
   exact⟨(((o1.setLow (p:=⟨w.heap.size,0,none⟩) hbl _).setLow (p:=⟨w.heap.size,1,none⟩) hbl _).setLow (p:=⟨w.heap.size,2,none⟩) hbl _).base_le (by omega),(((o2.setLow (p:=⟨w.heap.size,0,none⟩) hbl _).setLow (p:=⟨w.heap.size,1,none⟩) hbl _).setLow (p:=⟨w.heap.size,2,none⟩) hbl _).base_le (by omega),(((o3.setLow (p:=⟨w.heap.size,0,none⟩) hbl _).setLow (p:=⟨w.heap.size,1,none⟩) hbl _).setLow (p:=⟨w.heap.size,2,none⟩) hbl _).base_le (by omega)⟩
theorem itoa_nat(n:Nat):Lib.itoa (n:Int)=Lib.decDigits n:=by
 unfold Lib.itoa
 rw[if_neg (by omega)]
 simp
theorem numO_decN{n:Nat}(h:n<18446744073709551616):numO (Lib.decDigits n)=some n:=by
 unfold numO
 rw[decV_dec,if_pos ⟨h,rfl⟩]
theorem readPt_num(l:List UInt8):readPt l=match numO l with|none=>none|some n=>if n≤65536 then some (n:Int) else none:=by
 have key:∀x,readPt l=some x→∃n:Nat,x=(n:Int)∧n≤65536∧l=Lib.decDigits n:=fun x hx=>by
  obtain⟨h1,h2,h3⟩:=readPt_inv hx
  obtain⟨n,rfl⟩:∃n:Nat,x=n:=⟨x.toNat,by omega⟩
  exact⟨n,rfl,by omega,by rw[←h1,itoa_nat]⟩
 rcases hn:numO l with _|n
 ·rcases hr:readPt l with _|x
  ·rfl
  obtain⟨m,_,h2,h3⟩:=key x hr
  rw[h3,numO_decN (by omega)] at hn
  cases hn
 obtain⟨_,_,_,_,h5⟩:=numO_len hn
 simp only
 split
 ·rename_i hle
  rw[←h5,←itoa_nat]
  unfold readPt
  rw[smallS_ok (atoi_dec (by omega)) (by omega) (by omega) rfl,if_neg (by omega)]
 rename_i hle
 rcases hr:readPt l with _|x
 ·rfl
 obtain⟨m,_,h2,h3⟩:=key x hr
 rw[←h5] at h3
 have:=dec_inj h3
 omega
theorem one_ird{u:World}{g t:Nat}{a:Int}(k:Blk u g t (inC a))(hg:g<u.heap.size):RdR inC 1 u u.heap.size (some ⟨g,0,none⟩) 1 [a]:=by
 refine⟨rfl,fun _=>⟨g,0,rfl,hg,fun j hj i v hv=>?_⟩⟩
 have hj0:j=0:=by simp at hj;exact hj
 subst hj0
 rw[Nat.zero_mul,Nat.zero_add,k.cell]
 exact hv
def TgtP(tl:List (List UInt8))(w:World)(e:Ending)(w':World):Prop:=Below w.heap.size w w'∧∃A1 n1 c1 A2 n2 c2 A3 n3 c3 A4 n4 c4,e=.returned (.tuple #[.agg #[.slice A1 n1 c1,.slice A2 n2 c2,.slice A3 n3 c3,.slice A4 n4 c4],.bool (toW tl).isSome]) ∧
 ∀s,toW tl=some s→OwnR inC 1 w' w.heap.size 3 (.slice A1 n1 c1) s.ports∧OwnR tmC 2 w' w.heap.size 42 (.slice A2 n2 c2) s.methods∧OwnR tmC 2 w' w.heap.size 42 (.slice A3 n3 c3) s.paths∧OwnR tmC 2 w' w.heap.size 42 (.slice A4 n4 c4) s.hosts
set_option maxRecDepth 100000 in
set_option maxHeartbeats 16000000 in
theorem rTarget_any(A:Option Addr)(n c:Nat)(tl:List (List UInt8))(w:World)(h:RdR sC 1 w w.heap.size A n (wTo::tl))(hn:n≤1000001)(hsh:∀x∈tl,x.length≤1000000) :
  Calls Tryz.prog 59 #[.slice A n c] w fun e w'=>TgtP tl w e w':=by
 have HI:=Lib.hid (show (Tryz.prog.info? 45).map (·.size)=some 4 by kernel_rfl)
 obtain⟨wa,hwa⟩:∃x,w.alloc (.cells #[.slice none 0 0,.slice none 0 0,.slice none 0 0,.slice none 0 0] 45)=x:=⟨_,rfl⟩
 have hga:wa.heap.size=w.heap.size+1:=by rw[←hwa];simp
 have f0:Below w.heap.size w wa:=by rw[←hwa];exact (Below.refl _ _).alloc (Nat.le_refl _) _
 have k0:Blk wa w.heap.size 45 [nilV,nilV,nilV,nilV]:=by rw[←hwa];exact Blk.newAt rfl _ _
 obtain⟨wb,hwb⟩:∃x,wa.alloc (.cells #[.slice none 0 0,.slice none 0 0,.slice none 0 0,.slice none 0 0] 45)=x:=⟨_,rfl⟩
 have hgb:wb.heap.size=w.heap.size+1+1:=by rw[←hwb];simp[hga]
 have fb:Below w.heap.size w wb:=by rw[←hwb];exact f0.alloc f0.size _
 have kr:Blk wb w.heap.size 45 [nilV,nilV,nilV,nilV]:=by rw[←hwb];exact k0.alloc _
 have kp:Blk wb (w.heap.size+1) 45 [nilV,nilV,nilV,nilV]:=by rw[←hwb,←hga];exact Blk.newAt rfl _ _
 obtain⟨wk,hwk⟩:∃x,wb.alloc (.cells #[.string ⟨#[112,111,114,116,115]⟩,.string ⟨#[109,101,116,104,111,100,115]⟩,.string ⟨#[112,97,116,104,115]⟩,.string ⟨#[104,111,115,116,115]⟩] 9)=x:=⟨_,rfl⟩
 have kk:Blk wk (w.heap.size+1+1) 9 (strC [wPorts,wMethods,wPaths,wHosts]):=by rw[←hwk,←hgb];exact Blk.newAt rfl _ _
 have fk:Below w.heap.size w wk:=by rw[←hwk];exact fb.alloc fb.size _
 replace kr:Blk wk w.heap.size 45 [nilV,nilV,nilV,nilV]:=by rw[←hwk];exact kr.alloc _
 replace kp:Blk wk (w.heap.size+1) 45 [nilV,nilV,nilV,nilV]:=by rw[←hwk];exact kp.alloc _
 have hout:rowO [wPorts,wMethods,wPaths,wHosts] tl=([(pickO wPorts tl).1,(pickO wMethods (pickO wPorts tl).2).1,(pickO wPaths (pickO wMethods (pickO wPorts tl).2).2).1,(pickO wHosts (pickO wPaths (pickO wMethods (pickO wPorts tl).2).2).2).1],(pickO wHosts (pickO wPaths (pickO wMethods (pickO wPorts tl).2).2).2).2):=rfl
 have hrow:=rRow_q A n c tl wTo (some ⟨w.heap.size+1+1,0,none⟩) 4 4 [wPorts,wMethods,wPaths,wHosts] _ _ wk ((h.below fk).more fk.size) hn (strC_rd kk) (by omega) hout
 have hfw:toW tl=if (pickO wHosts (pickO wPaths (pickO wMethods (pickO wPorts tl).2).2).2).2=[] then
  match listV readPt (pickO wPorts tl).1 with
  | none=>none
  | some a=>match listV readTm (pickO wMethods (pickO wPorts tl).2).1 with
   | none=>none
   | some b=>match listV readTm (pickO wPaths (pickO wMethods (pickO wPorts tl).2).2).1 with
    | none=>none
    | some c=>match listV readTm (pickO wHosts (pickO wPaths (pickO wMethods (pickO wPorts tl).2).2).2).1 with
     | none=>none
     | some d=>some ⟨a,b,c,d⟩
  else none:=rfl
 have hx0:=pick_len (k:=wPorts) hsh
 have hx1:=pick_len (k:=wMethods) hx0.2
 have hx2:=pick_len (k:=wPaths) hx1.2
 have hx3:=pick_len (k:=wHosts) hx2.2
 generalize (pickO wPorts tl).1=x0 at *
 generalize (pickO wMethods (pickO wPorts tl).2).1=x1 at *
 generalize (pickO wPaths (pickO wMethods (pickO wPorts tl).2).2).1=x2 at *
 generalize (pickO wHosts (pickO wPaths (pickO wMethods (pickO wPorts tl).2).2).2).1=x3 at *
 generalize (pickO wHosts (pickO wPaths (pickO wMethods (pickO wPorts tl).2).2).2).2=rr at *
 have l0:=hx0.1
 have l1:=hx1.1
 have l2:=hx2.1
 have l3:=hx3.1
 obtain⟨fw,hfw2⟩:∃y,toW tl=y:=⟨_,rfl⟩
 have HFW2:=Lib.hid hfw2
 rw[hfw2] at hfw
 have HFW:=Lib.hid hfw
 obtain⟨rk,hrk⟩:∃y,decide (rr=[])=y:=⟨_,rfl⟩
 have HRK:=Lib.hid hrk
 clear hout hfw hx0 hx1 hx2 hx3 kk k0 f0 fb h hsh hfw2
 rw[hrk] at hrow
 clear hrk
 have hbl:w.heap.size<w.heap.size+1+1:=by omega
 go_enter Tryz.func59,Tryz.ntmps59
 go_wp2_with fail
 refine hrow.mono ?_
 rintro e w1 ⟨f1,g,rfl,hgg,kg⟩
 have F1:=fk.trans (f1.mono fk.size)
 replace kp:=kp.below f1 kp.lt
 replace kr:=kr.below f1 kr.lt
 have hgb2:w.heap.size+1<g:=by
  have:wk.heap.size=wb.heap.size+1:=by rw[←hwk];simp
  omega
 clear hrow f1 hwk hwb hwa hga hgb fk
 rcases rk with _|_
 ·have HFN:=Lib.hid (show fw=none by rw[HFW.out,if_neg (of_decide_eq_false HRK.out)])
  clear kg
  obtain⟨c0,c1',c2',c3'⟩:_∧_∧_∧_:=⟨kp.cell 0,kp.cell 1,kp.cell 2,kp.cell 3⟩
  obtain⟨r0,r1,r2,r3⟩:_∧_∧_∧_:=⟨kr.cell 0,kr.cell 1,kr.cell 2,kr.cell 3⟩
  obtain⟨z0,z1,z2,z3⟩:_∧_∧_∧_:=⟨kr.frozen 0,kr.frozen 1,kr.frozen 2,kr.frozen 3⟩
  simp only[nilV,List.getElem?_cons_zero,List.getElem?_cons_succ] at c0 c1' c2' c3' r0 r1 r2 r3
  have k9:=(((kr.set 0 (.slice none 0 0)).set 1 (.slice none 0 0)).set 2 (.slice none 0 0)).set 3 (.slice none 0 0)
  have f9:=(((F1.setCell (p:=⟨w.heap.size,0,none⟩) (Nat.le_refl _) (.slice none 0 0)).setCell (p:=⟨w.heap.size,1,none⟩) (Nat.le_refl _) (.slice none 0 0)).setCell (p:=⟨w.heap.size,2,none⟩) (Nat.le_refl _) (.slice none 0 0)).setCell (p:=⟨w.heap.size,3,none⟩) (Nat.le_refl _) (.slice none 0 0)
  go_wp2_with fail
  refine bodyPost_ret (k9.sizedT rfl _ rfl Tryz.underlying45 HI.out) rfl ⟨f9,none,0,0,none,0,0,none,0,0,none,0,0,?_,?_⟩
  ·rw[HFW2.out,HFN.out];rfl
  rw[HFW2.out,HFN.out];intro s hs;cases hs
 have e0:=kg.cell 0
 simp only[strC,List.map_cons,List.map_nil,List.getElem?_cons_zero,List.getElem?_cons_succ] at e0
 have hxe:(strB x0).toList.isEmpty=x0.isEmpty:=by rw[strB_toList]
 by_cases hx:x0=[]
 ·have hxe2:(strB x0).toList.isEmpty=true:=by rw[hxe,hx];rfl
  have HL1:=Lib.hid (show listV readPt x0=some [] by rw[hx];rfl)
  have o1:OwnR inC 1 w1 (w.heap.size+1+1) 3 (.slice none 0 0) ([]:List Int):=OwnR.nil
  obtain⟨A1,hA1⟩:∃x:Option Addr,none=x:=⟨_,rfl⟩
  obtain⟨n1,hn1⟩:∃x:Nat,0=x:=⟨_,rfl⟩
  have KG:=Lib.hid kg
  clear hxe hx hA1 hn1 kg
  generalize strB x0=sx at *
  have kg:=KG.out
  go_wp2_with fail
  go_loopw [11] (fun v11 wr=>∃(i:Nat)(u2 u3 u4:Value),v11=.int .i64 (i:Int)∧Blk wr (w.heap.size+1) 45 [.slice none 0 0,u2,u3,u4]∧Blk wr w.heap.size 45 [nilV,nilV,nilV,nilV]∧Blk wr g 9 (strC [x0,x1,x2,x3])∧Below w.heap.size w wr∧OwnR inC 1 wr (w.heap.size+1+1) 3 (.slice none 0 0) ([]:List Int)∧(∃A n c,u2=.slice A n c)∧(∃A n c,u3=.slice A n c)∧(∃A n c,u4=.slice A n c)∧((i=1∧u2=nilV∧u3=nilV∧u4=nilV)∨(i=2∧RowT wr (w.heap.size+1+1) u2 x1∧u3=nilV∧u4=nilV)∨(i=3∧RowT wr (w.heap.size+1+1) u2 x1∧RowT wr (w.heap.size+1+1) u3 x2∧u4=nilV)∨(i=4∧RowT wr (w.heap.size+1+1) u2 x1∧RowT wr (w.heap.size+1+1) u3 x2∧RowT wr (w.heap.size+1+1) u4 x3))) (fun v11 _=>5-(intOf v11).toNat)
  case atStart=>exact⟨1,nilV,nilV,nilV,rfl,kp,kr,kg,F1,o1,⟨none,0,0,rfl⟩,⟨none,0,0,rfl⟩,⟨none,0,0,rfl⟩,.inl ⟨rfl,rfl,rfl,rfl⟩⟩
  case round =>
   clear kp kr kg F1 o1
   obtain⟨i,u2,u3,u4,rfl,kp,kr,kg,F2,o1,hu2,hu3,hu4,hst⟩:=hrel
   obtain⟨A2,n2,c2,rfl⟩:=hu2
   obtain⟨A3,n3,c3,rfl⟩:=hu3
   obtain⟨A4,n4,c4,rfl⟩:=hu4
   rcases hst with ⟨rfl,h2,h3,h4⟩|⟨rfl,hr2,h3,h4⟩|⟨rfl,hr2,hr3,h4⟩|⟨rfl,hr2,hr3,hr4⟩
   ·injection h2 with h2 h2b h2c
    subst h2 h2b h2c
    injection h3 with h3 h3b h3c
    subst h3 h3b h3c
    injection h4 with h4 h4b h4c
    subst h4 h4b h4c
    have e0:=kg.cell 1
    simp only[strC,List.map_cons,List.map_nil,List.getElem?_cons_zero,List.getElem?_cons_succ] at e0
    have hxe:(strB x1).toList.isEmpty=x1.isEmpty:=by rw[strB_toList]
    by_cases hx:x1=[]
    ·have hxe2:(strB x1).toList.isEmpty=true:=by rw[hxe,hx];rfl
     have hrw:RowT wr (w.heap.size+1+1) nilV x1:=by rw[hx];exact RowT.nil
     have KG:=Lib.hid kg
     clear hxe hx kg
     generalize strB x1=sx at *
     go_wp2_with fail
     go_roundw
     case rel=>exact⟨2,.slice none 0 0,.slice none 0 0,.slice none 0 0,by go_num,kp,kr,KG.out,F2,o1,⟨_,_,_,rfl⟩,⟨_,_,_,rfl⟩,⟨_,_,_,rfl⟩,.inr (.inl ⟨rfl,hrw,rfl,rfl⟩)⟩
     case measure=>simp[intOf]
    have hxe2:(strB x1).toList.isEmpty=false:=by rw[hxe];simpa using hx
    have hT:=rTermsOf_any x1 l1 wr
    obtain⟨o,ho⟩:∃o,mapO readTm (spl 44 x1)=o:=⟨_,rfl⟩
    have hlv:listV readTm x1=o:=by unfold listV;rw[if_neg hx];exact ho
    rw[ho] at hT
    have HLV:=Lib.hid hlv
    have KG:=Lib.hid kg
    obtain⟨sx,hsx⟩:∃y,strB x1=y:=⟨_,rfl⟩
    rw[hsx] at hT e0 hxe2
    clear hxe hx ho hlv hsx kg
    unfold TermsP at hT
    rcases o with _|L
    ·have hno:fw=none:=by
      rw[HFW.out]
      split
      ·simp only[HL1.out,HLV.out]
      rfl
     have HFN:=Lib.hid hno
     clear hno
     go_wp2_with fail
     refine hT.mono ?_
     rintro e w3 ⟨f3,rfl⟩
     replace kp:=kp.below f3 kp.lt
     replace kr:=kr.below f3 kr.lt
     have F3:=F2.trans (f3.mono F2.size)
     clear hT e0 f3 o1
     obtain⟨c0,c1',c2',c3'⟩:_∧_∧_∧_:=⟨kp.cell 0,kp.cell 1,kp.cell 2,kp.cell 3⟩
     obtain⟨r0,r1,r2,r3⟩:_∧_∧_∧_:=⟨kr.cell 0,kr.cell 1,kr.cell 2,kr.cell 3⟩
     obtain⟨z0,z1,z2,z3⟩:_∧_∧_∧_:=⟨kr.frozen 0,kr.frozen 1,kr.frozen 2,kr.frozen 3⟩
     simp only[nilV,List.getElem?_cons_zero,List.getElem?_cons_succ] at c0 c1' c2' c3' r0 r1 r2 r3
     have k9:=(((kr.set 0 (.slice none 0 0)).set 1 (.slice none 0 0)).set 2 (.slice none 0 0)).set 3 (.slice none 0 0)
     have f9:=(((F3.setCell (p:=⟨w.heap.size,0,none⟩) (Nat.le_refl _) (.slice none 0 0)).setCell (p:=⟨w.heap.size,1,none⟩) (Nat.le_refl _) (.slice none 0 0)).setCell (p:=⟨w.heap.size,2,none⟩) (Nat.le_refl _) (.slice none 0 0)).setCell (p:=⟨w.heap.size,3,none⟩) (Nat.le_refl _) (.slice none 0 0)
     go_wp2_with fail
     refine bodyPost_ret (k9.sizedT rfl _ rfl Tryz.underlying45 HI.out) rfl ⟨f9,none,0,0,none,0,0,none,0,0,none,0,0,?_,?_⟩
     ·rw[HFW2.out,HFN.out];rfl
     rw[HFW2.out,HFN.out];intro s hs;cases hs
    go_wp2_with fail
    refine hT.mono ?_
    rintro e w3 ⟨f3,A5,c5,rfl,o5⟩
    have kg3:=KG.out.below f3 KG.out.lt
    have hbs:w.heap.size+1<wr.heap.size:=kp.lt
    replace o1:=(o1.below (Nat.le_refl _) f3).setLow (p:=⟨w.heap.size+1,1,none⟩) (Nat.lt_succ_self _) (.slice A5 L.length c5)
    replace kp:=kp.below f3 kp.lt
    replace kr:=kr.below f3 kr.lt
    have F3:=F2.trans (f3.mono F2.size)
    have x0':=kp.cell 1
    have y0':=kp.frozen 1
    simp only[List.getElem?_cons_zero,List.getElem?_cons_succ] at x0'
    have kp3:=kp.set 1 (.slice A5 L.length c5)
    have kr3:=kr.setNe (p:=⟨w.heap.size+1,1,none⟩) (by show w.heap.size≠w.heap.size+1;omega) (.slice A5 L.length c5)
    have hgn:g≠w.heap.size+1:=by omega
    replace kg3:=kg3.setNe (p:=⟨w.heap.size+1,1,none⟩) hgn (.slice A5 L.length c5)
    have F4:=F3.setCell (p:=⟨w.heap.size+1,1,none⟩) (Nat.le_succ _) (.slice A5 L.length c5)
    have hrw:RowT (w3.setCell ⟨w.heap.size+1,1,none⟩ (.slice A5 L.length c5)) (w.heap.size+1+1) (.slice A5 L.length c5) x1:=⟨⟨_,_,_,rfl⟩,L,HLV.out,(o5.base_le (show w.heap.size+1+1≤wr.heap.size from hbs)).setLow (Nat.lt_succ_self _) _⟩
    have KG3:=Lib.hid kg3
    clear hT e0 f3 hgn kp kr kg3 o5 hbs
    go_wp2_with fail
    go_roundw
    case rel=>exact⟨2,.slice A5 L.length c5,.slice none 0 0,.slice none 0 0,by go_num,kp3,kr3,KG3.out,F4,o1,⟨_,_,_,rfl⟩,⟨_,_,_,rfl⟩,⟨_,_,_,rfl⟩,.inr (.inl ⟨rfl,hrw,rfl,rfl⟩)⟩
    case measure=>simp[intOf]
   ·injection h3 with h3 h3b h3c
    subst h3 h3b h3c
    injection h4 with h4 h4b h4c
    subst h4 h4b h4c
    have e0:=kg.cell 2
    simp only[strC,List.map_cons,List.map_nil,List.getElem?_cons_zero,List.getElem?_cons_succ] at e0
    have hxe:(strB x2).toList.isEmpty=x2.isEmpty:=by rw[strB_toList]
    by_cases hx:x2=[]
    ·have hxe2:(strB x2).toList.isEmpty=true:=by rw[hxe,hx];rfl
     have hrw:RowT wr (w.heap.size+1+1) nilV x2:=by rw[hx];exact RowT.nil
     have KG:=Lib.hid kg
     clear hxe hx kg
     generalize strB x2=sx at *
     go_wp2_with fail
     go_roundw
     case rel=>exact⟨3,.slice A2 n2 c2,.slice none 0 0,.slice none 0 0,by go_num,kp,kr,KG.out,F2,o1,⟨_,_,_,rfl⟩,⟨_,_,_,rfl⟩,⟨_,_,_,rfl⟩,.inr (.inr (.inl ⟨rfl,hr2,hrw,rfl⟩))⟩
     case measure=>simp[intOf]
    have hxe2:(strB x2).toList.isEmpty=false:=by rw[hxe];simpa using hx
    have hT:=rTermsOf_any x2 l2 wr
    obtain⟨o,ho⟩:∃o,mapO readTm (spl 44 x2)=o:=⟨_,rfl⟩
    have hlv:listV readTm x2=o:=by unfold listV;rw[if_neg hx];exact ho
    rw[ho] at hT
    have HLV:=Lib.hid hlv
    have KG:=Lib.hid kg
    obtain⟨sx,hsx⟩:∃y,strB x2=y:=⟨_,rfl⟩
    rw[hsx] at hT e0 hxe2
    clear hxe hx ho hlv hsx kg
    unfold TermsP at hT
    rcases o with _|L
    ·have hno:fw=none:=by
      obtain⟨_,M2,hl2,_⟩:=hr2
      rw[HFW.out]
      split
      ·simp only[HL1.out,hl2,HLV.out]
      rfl
     have HFN:=Lib.hid hno
     clear hno
     go_wp2_with fail
     refine hT.mono ?_
     rintro e w3 ⟨f3,rfl⟩
     replace kp:=kp.below f3 kp.lt
     replace kr:=kr.below f3 kr.lt
     have F3:=F2.trans (f3.mono F2.size)
     clear hT e0 f3 o1
     obtain⟨c0,c1',c2',c3'⟩:_∧_∧_∧_:=⟨kp.cell 0,kp.cell 1,kp.cell 2,kp.cell 3⟩
     obtain⟨r0,r1,r2,r3⟩:_∧_∧_∧_:=⟨kr.cell 0,kr.cell 1,kr.cell 2,kr.cell 3⟩
     obtain⟨z0,z1,z2,z3⟩:_∧_∧_∧_:=⟨kr.frozen 0,kr.frozen 1,kr.frozen 2,kr.frozen 3⟩
     simp only[nilV,List.getElem?_cons_zero,List.getElem?_cons_succ] at c0 c1' c2' c3' r0 r1 r2 r3
     have k9:=(((kr.set 0 (.slice none 0 0)).set 1 (.slice A2 n2 c2)).set 2 (.slice none 0 0)).set 3 (.slice none 0 0)
     have f9:=(((F3.setCell (p:=⟨w.heap.size,0,none⟩) (Nat.le_refl _) (.slice none 0 0)).setCell (p:=⟨w.heap.size,1,none⟩) (Nat.le_refl _) (.slice A2 n2 c2)).setCell (p:=⟨w.heap.size,2,none⟩) (Nat.le_refl _) (.slice none 0 0)).setCell (p:=⟨w.heap.size,3,none⟩) (Nat.le_refl _) (.slice none 0 0)
     go_wp2_with fail
     refine bodyPost_ret (k9.sizedT rfl _ rfl Tryz.underlying45 HI.out) rfl ⟨f9,none,0,0,A2,n2,c2,none,0,0,none,0,0,?_,?_⟩
     ·rw[HFW2.out,HFN.out];rfl
     rw[HFW2.out,HFN.out];intro s hs;cases hs
    go_wp2_with fail
    refine hT.mono ?_
    rintro e w3 ⟨f3,A5,c5,rfl,o5⟩
    have kg3:=KG.out.below f3 KG.out.lt
    have hbs:w.heap.size+1<wr.heap.size:=kp.lt
    replace hr2:=(hr2.below f3).setLow (p:=⟨w.heap.size+1,2,none⟩) (Nat.lt_succ_self _) (.slice A5 L.length c5)
    replace o1:=(o1.below (Nat.le_refl _) f3).setLow (p:=⟨w.heap.size+1,2,none⟩) (Nat.lt_succ_self _) (.slice A5 L.length c5)
    replace kp:=kp.below f3 kp.lt
    replace kr:=kr.below f3 kr.lt
    have F3:=F2.trans (f3.mono F2.size)
    have x0':=kp.cell 2
    have y0':=kp.frozen 2
    simp only[List.getElem?_cons_zero,List.getElem?_cons_succ] at x0'
    have kp3:=kp.set 2 (.slice A5 L.length c5)
    have kr3:=kr.setNe (p:=⟨w.heap.size+1,2,none⟩) (by show w.heap.size≠w.heap.size+1;omega) (.slice A5 L.length c5)
    have hgn:g≠w.heap.size+1:=by omega
    replace kg3:=kg3.setNe (p:=⟨w.heap.size+1,2,none⟩) hgn (.slice A5 L.length c5)
    have F4:=F3.setCell (p:=⟨w.heap.size+1,2,none⟩) (Nat.le_succ _) (.slice A5 L.length c5)
    have hrw:RowT (w3.setCell ⟨w.heap.size+1,2,none⟩ (.slice A5 L.length c5)) (w.heap.size+1+1) (.slice A5 L.length c5) x2:=⟨⟨_,_,_,rfl⟩,L,HLV.out,(o5.base_le (show w.heap.size+1+1≤wr.heap.size from hbs)).setLow (Nat.lt_succ_self _) _⟩
    have KG3:=Lib.hid kg3
    clear hT e0 f3 hgn kp kr kg3 o5 hbs
    go_wp2_with fail
    go_roundw
    case rel=>exact⟨3,.slice A2 n2 c2,.slice A5 L.length c5,.slice none 0 0,by go_num,kp3,kr3,KG3.out,F4,o1,⟨_,_,_,rfl⟩,⟨_,_,_,rfl⟩,⟨_,_,_,rfl⟩,.inr (.inr (.inl ⟨rfl,hr2,hrw,rfl⟩))⟩
    case measure=>simp[intOf]
   ·injection h4 with h4 h4b h4c
    subst h4 h4b h4c
    have e0:=kg.cell 3
    simp only[strC,List.map_cons,List.map_nil,List.getElem?_cons_zero,List.getElem?_cons_succ] at e0
    have hxe:(strB x3).toList.isEmpty=x3.isEmpty:=by rw[strB_toList]
    by_cases hx:x3=[]
    ·have hxe2:(strB x3).toList.isEmpty=true:=by rw[hxe,hx];rfl
     have hrw:RowT wr (w.heap.size+1+1) nilV x3:=by rw[hx];exact RowT.nil
     have KG:=Lib.hid kg
     clear hxe hx kg
     generalize strB x3=sx at *
     go_wp2_with fail
     go_roundw
     case rel=>exact⟨4,.slice A2 n2 c2,.slice A3 n3 c3,.slice none 0 0,by go_num,kp,kr,KG.out,F2,o1,⟨_,_,_,rfl⟩,⟨_,_,_,rfl⟩,⟨_,_,_,rfl⟩,.inr (.inr (.inr ⟨rfl,hr2,hr3,hrw⟩))⟩
     case measure=>simp[intOf]
    have hxe2:(strB x3).toList.isEmpty=false:=by rw[hxe];simpa using hx
    have hT:=rTermsOf_any x3 l3 wr
    obtain⟨o,ho⟩:∃o,mapO readTm (spl 44 x3)=o:=⟨_,rfl⟩
    have hlv:listV readTm x3=o:=by unfold listV;rw[if_neg hx];exact ho
    rw[ho] at hT
    have HLV:=Lib.hid hlv
    have KG:=Lib.hid kg
    obtain⟨sx,hsx⟩:∃y,strB x3=y:=⟨_,rfl⟩
    rw[hsx] at hT e0 hxe2
    clear hxe hx ho hlv hsx kg
    unfold TermsP at hT
    rcases o with _|L
    ·have hno:fw=none:=by
      obtain⟨_,M2,hl2,_⟩:=hr2
      obtain⟨_,M3,hl3,_⟩:=hr3
      rw[HFW.out]
      split
      ·simp only[HL1.out,hl2,hl3,HLV.out]
      rfl
     have HFN:=Lib.hid hno
     clear hno
     go_wp2_with fail
     refine hT.mono ?_
     rintro e w3 ⟨f3,rfl⟩
     replace kp:=kp.below f3 kp.lt
     replace kr:=kr.below f3 kr.lt
     have F3:=F2.trans (f3.mono F2.size)
     clear hT e0 f3 o1
     obtain⟨c0,c1',c2',c3'⟩:_∧_∧_∧_:=⟨kp.cell 0,kp.cell 1,kp.cell 2,kp.cell 3⟩
     obtain⟨r0,r1,r2,r3⟩:_∧_∧_∧_:=⟨kr.cell 0,kr.cell 1,kr.cell 2,kr.cell 3⟩
     obtain⟨z0,z1,z2,z3⟩:_∧_∧_∧_:=⟨kr.frozen 0,kr.frozen 1,kr.frozen 2,kr.frozen 3⟩
     simp only[nilV,List.getElem?_cons_zero,List.getElem?_cons_succ] at c0 c1' c2' c3' r0 r1 r2 r3
     have k9:=(((kr.set 0 (.slice none 0 0)).set 1 (.slice A2 n2 c2)).set 2 (.slice A3 n3 c3)).set 3 (.slice none 0 0)
     have f9:=(((F3.setCell (p:=⟨w.heap.size,0,none⟩) (Nat.le_refl _) (.slice none 0 0)).setCell (p:=⟨w.heap.size,1,none⟩) (Nat.le_refl _) (.slice A2 n2 c2)).setCell (p:=⟨w.heap.size,2,none⟩) (Nat.le_refl _) (.slice A3 n3 c3)).setCell (p:=⟨w.heap.size,3,none⟩) (Nat.le_refl _) (.slice none 0 0)
     go_wp2_with fail
     refine bodyPost_ret (k9.sizedT rfl _ rfl Tryz.underlying45 HI.out) rfl ⟨f9,none,0,0,A2,n2,c2,A3,n3,c3,none,0,0,?_,?_⟩
     ·rw[HFW2.out,HFN.out];rfl
     rw[HFW2.out,HFN.out];intro s hs;cases hs
    go_wp2_with fail
    refine hT.mono ?_
    rintro e w3 ⟨f3,A5,c5,rfl,o5⟩
    have kg3:=KG.out.below f3 KG.out.lt
    have hbs:w.heap.size+1<wr.heap.size:=kp.lt
    replace hr2:=(hr2.below f3).setLow (p:=⟨w.heap.size+1,3,none⟩) (Nat.lt_succ_self _) (.slice A5 L.length c5)
    replace hr3:=(hr3.below f3).setLow (p:=⟨w.heap.size+1,3,none⟩) (Nat.lt_succ_self _) (.slice A5 L.length c5)
    replace o1:=(o1.below (Nat.le_refl _) f3).setLow (p:=⟨w.heap.size+1,3,none⟩) (Nat.lt_succ_self _) (.slice A5 L.length c5)
    replace kp:=kp.below f3 kp.lt
    replace kr:=kr.below f3 kr.lt
    have F3:=F2.trans (f3.mono F2.size)
    have x0':=kp.cell 3
    have y0':=kp.frozen 3
    simp only[List.getElem?_cons_zero,List.getElem?_cons_succ] at x0'
    have kp3:=kp.set 3 (.slice A5 L.length c5)
    have kr3:=kr.setNe (p:=⟨w.heap.size+1,3,none⟩) (by show w.heap.size≠w.heap.size+1;omega) (.slice A5 L.length c5)
    have hgn:g≠w.heap.size+1:=by omega
    replace kg3:=kg3.setNe (p:=⟨w.heap.size+1,3,none⟩) hgn (.slice A5 L.length c5)
    have F4:=F3.setCell (p:=⟨w.heap.size+1,3,none⟩) (Nat.le_succ _) (.slice A5 L.length c5)
    have hrw:RowT (w3.setCell ⟨w.heap.size+1,3,none⟩ (.slice A5 L.length c5)) (w.heap.size+1+1) (.slice A5 L.length c5) x3:=⟨⟨_,_,_,rfl⟩,L,HLV.out,(o5.base_le (show w.heap.size+1+1≤wr.heap.size from hbs)).setLow (Nat.lt_succ_self _) _⟩
    have KG3:=Lib.hid kg3
    clear hT e0 f3 hgn kp kr kg3 o5 hbs
    go_wp2_with fail
    go_roundw
    case rel=>exact⟨4,.slice A2 n2 c2,.slice A3 n3 c3,.slice A5 L.length c5,by go_num,kp3,kr3,KG3.out,F4,o1,⟨_,_,_,rfl⟩,⟨_,_,_,rfl⟩,⟨_,_,_,rfl⟩,.inr (.inr (.inr ⟨rfl,hr2,hr3,hrw⟩))⟩
    case measure=>simp[intOf]
   obtain⟨_,M2,hl2,o2⟩:=hr2
   obtain⟨_,M3,hl3,o3⟩:=hr3
   obtain⟨_,M4,hl4,o4⟩:=hr4
   have hrr:=of_decide_eq_true HRK.out
   have HFS:=Lib.hid (show fw=some ⟨([]:List Int),M2,M3,M4⟩ by
    rw[HFW.out,if_pos hrr]
    simp only[HL1.out,hl2,hl3,hl4])
   clear hrr hl2 hl3 hl4 kg
   obtain⟨c0,c1',c2',c3'⟩:_∧_∧_∧_:=⟨kp.cell 0,kp.cell 1,kp.cell 2,kp.cell 3⟩
   obtain⟨r0,r1,r2,r3⟩:_∧_∧_∧_:=⟨kr.cell 0,kr.cell 1,kr.cell 2,kr.cell 3⟩
   obtain⟨z0,z1,z2,z3⟩:_∧_∧_∧_:=⟨kr.frozen 0,kr.frozen 1,kr.frozen 2,kr.frozen 3⟩
   simp only[nilV,List.getElem?_cons_zero,List.getElem?_cons_succ] at c0 c1' c2' c3' r0 r1 r2 r3
   have k9:=(((kr.set 0 (.slice none 0 0)).set 1 (.slice A2 n2 c2)).set 2 (.slice A3 n3 c3)).set 3 (.slice A4 n4 c4)
   have f9:=(((F2.setCell (p:=⟨w.heap.size,0,none⟩) (Nat.le_refl _) (.slice none 0 0)).setCell (p:=⟨w.heap.size,1,none⟩) (Nat.le_refl _) (.slice A2 n2 c2)).setCell (p:=⟨w.heap.size,2,none⟩) (Nat.le_refl _) (.slice A3 n3 c3)).setCell (p:=⟨w.heap.size,3,none⟩) (Nat.le_refl _) (.slice A4 n4 c4)
   go_wp2_with fail
   refine bodyPost_ret (k9.sizedT rfl _ rfl Tryz.underlying45 HI.out) rfl ⟨f9,none,0,0,A2,n2,c2,A3,n3,c3,A4,n4,c4,?_,?_⟩
   ·rw[HFW2.out,HFS.out];rfl
   rw[HFW2.out,HFS.out]
   intro s hs
   injection hs with hs
   subst hs
   exact⟨((((o1.setLow (p:=⟨w.heap.size,0,none⟩) hbl _).setLow (p:=⟨w.heap.size,1,none⟩) hbl _).setLow (p:=⟨w.heap.size,2,none⟩) hbl _).setLow (p:=⟨w.heap.size,3,none⟩) hbl _).base_le (by omega),((((o2.setLow (p:=⟨w.heap.size,0,none⟩) hbl _).setLow (p:=⟨w.heap.size,1,none⟩) hbl _).setLow (p:=⟨w.heap.size,2,none⟩) hbl _).setLow (p:=⟨w.heap.size,3,none⟩) hbl _).base_le (by omega),((((o3.setLow (p:=⟨w.heap.size,0,none⟩) hbl _).setLow (p:=⟨w.heap.size,1,none⟩) hbl _).setLow (p:=⟨w.heap.size,2,none⟩) hbl _).setLow (p:=⟨w.heap.size,3,none⟩) hbl _).base_le (by omega),((((o4.setLow (p:=⟨w.heap.size,0,none⟩) hbl _).setLow (p:=⟨w.heap.size,1,none⟩) hbl _).setLow (p:=⟨w.heap.size,2,none⟩) hbl _).setLow (p:=⟨w.heap.size,3,none⟩) hbl _).base_le (by omega)⟩
 have hxe2:(strB x0).toList.isEmpty=false:=by rw[hxe];simpa using hx
 have hcut:=rCut_any x0 44 l0 w1
 rw[show ((44:UInt8).toNat:Int)=44 from rfl] at hcut
 have hlen:=spl_len 44 x0
 have hml:=spl_mem_len 44 x0
 have hlv:listV readPt x0=mapO readPt (spl 44 x0):=by unfold listV;rw[if_neg hx]
 obtain⟨P,hP⟩:∃P,spl 44 x0=P:=⟨_,rfl⟩
 rw[hP] at hcut hlen hml hlv
 have HLV0:=Lib.hid hlv
 have HML:=Lib.hid hml
 have KG:=Lib.hid kg
 clear hxe hx kg hP hlv hml
 generalize strB x0=sx at *
 go_wp2_with fail
 refine hcut.mono ?_
 rintro e w3 ⟨Ap,np,cp,rfl,op,f3⟩
 have hbs:w.heap.size+1+1≤w1.heap.size:=kp.lt
 replace op:=op.base_le hbs
 have kg:=KG.out.below f3 KG.out.lt
 replace kp:=kp.below f3 kp.lt
 replace kr:=kr.below f3 kr.lt
 have F3:=F1.trans (f3.mono F1.size)
 have hnp:=op.len
 clear hcut e0 f3 hbs F1 KG
 go_wp2_with fail
 go_loopw [8] (fun v8 wr=>∃(i:Nat)(A1:Option Addr)(n1 c1:Nat)(L1:List Int),v8=.int .i64 (i:Int)∧i≤np∧Blk wr (w.heap.size+1) 45 [.slice A1 n1 c1,nilV,nilV,nilV]∧Blk wr w.heap.size 45 [nilV,nilV,nilV,nilV]∧Blk wr g 9 (strC [x0,x1,x2,x3])∧Below w.heap.size w wr∧n1=i∧mapO readPt (P.take i)=some L1∧OwnR inC 1 wr (w.heap.size+1+1) 3 (.slice A1 n1 c1) L1∧OwnR sC 1 wr (w.heap.size+1+1) 9 (.slice Ap np cp) P) (fun v8 _=>np-(intOf v8).toNat)
 case atStart=>exact⟨0,none,0,0,[],rfl,by omega,kp,kr,kg,F3,rfl,rfl,OwnR.nil,op⟩
 case round =>
  clear kp kr kg F3 op
  obtain⟨i,A1,n1,c1,L1,rfl,hi,kp,kr,kg,F2,hn3,hmp,o1,op⟩:=hrel
  have hcap:=o1.cap
  by_cases hlt:i<np
  ·have d5:decide ((i:Int)<(np:Int))=true:=by simp;omega
   have b1:(0:Int)≤(i:Int):=by omega
   have b2:(i:Int)<(np:Int):=by omega
   have hiP:i<P.length:=by omega
   obtain⟨b,off,hAp,hb,hcell⟩:=(op.rd sC_len).2 (by omega)
   have g0:=hcell i hiP 0 _ rfl
   rw[Nat.add_zero,Nat.mul_one] at g0
   have hxl:=HML.out _ (List.getElem_mem hiP)
   have hst:=mapO_take hiP hmp
   obtain⟨x,hx⟩:∃x,P[i]=x:=⟨_,rfl⟩
   rw[hx] at hxl hst
   replace g0:wr.cell? ⟨b,off+i,none⟩=some (.string (strB x)):=by rw[←hx];exact g0
   clear hx hcell
   subst hAp
   have hcl:=rNum_any x (by omega) wr
   unfold RNumP at hcl
   have hpt:=readPt_num x
   obtain⟨o,ho⟩:∃o,numO x=o:=⟨_,rfl⟩
   rw[ho] at hcl hpt
   have HPT:=Lib.hid hpt
   obtain⟨h1,h2⟩:=hst
   have H1:=Lib.hid h1;have H2:=Lib.hid h2
   have hn6:n1≤1000001:=by omega
   have HN3:=Lib.hid hn3
   have KG:=Lib.hid kg
   clear h1 h2 hmp hn3 hpt ho kg
   generalize strB x=sy at *
   have hfnone:readPt x=none→fw=none:=fun h=>by
    rw[HFW.out]
    split
    ·simp only[HLV0.out,H2.out h]
    rfl
   have HFNN:=Lib.hid hfnone
   clear hfnone
   go_wp2_with fail
   refine hcl.mono ?_
   rintro e w4 ⟨v,hv64,rfl,hvv,f4⟩
   replace F2:=F2.trans (f4.mono F2.size)
   have kg:=KG.out.below f4 KG.out.lt
   replace kp:=kp.below f4 kp.lt
   replace kr:=kr.below f4 kr.lt
   replace o1:=o1.below (Nat.le_refl _) f4
   replace op:=op.below (Nat.le_refl _) f4
   clear hcl g0 f4 KG
   rcases o with _|v0
   ·have HFN:=Lib.hid (HFNN.out HPT.out)
    clear kg o1 op
    obtain⟨c0,c1',c2',c3'⟩:_∧_∧_∧_:=⟨kp.cell 0,kp.cell 1,kp.cell 2,kp.cell 3⟩
    obtain⟨r0,r1,r2,r3⟩:_∧_∧_∧_:=⟨kr.cell 0,kr.cell 1,kr.cell 2,kr.cell 3⟩
    obtain⟨z0,z1,z2,z3⟩:_∧_∧_∧_:=⟨kr.frozen 0,kr.frozen 1,kr.frozen 2,kr.frozen 3⟩
    simp only[nilV,List.getElem?_cons_zero,List.getElem?_cons_succ] at c0 c1' c2' c3' r0 r1 r2 r3
    have k9:=(((kr.set 0 (.slice A1 n1 c1)).set 1 (.slice none 0 0)).set 2 (.slice none 0 0)).set 3 (.slice none 0 0)
    have f9:=(((F2.setCell (p:=⟨w.heap.size,0,none⟩) (Nat.le_refl _) (.slice A1 n1 c1)).setCell (p:=⟨w.heap.size,1,none⟩) (Nat.le_refl _) (.slice none 0 0)).setCell (p:=⟨w.heap.size,2,none⟩) (Nat.le_refl _) (.slice none 0 0)).setCell (p:=⟨w.heap.size,3,none⟩) (Nat.le_refl _) (.slice none 0 0)
    go_wp2_with fail
    refine bodyPost_ret (k9.sizedT rfl _ rfl Tryz.underlying45 HI.out) rfl ⟨f9,A1,n1,c1,none,0,0,none,0,0,none,0,0,?_,?_⟩
    ·rw[HFW2.out,HFN.out];rfl
    rw[HFW2.out,HFN.out];intro s hs;cases hs
   obtain rfl:v=v0:=hvv v0 rfl
   have hpt:=HPT.out
   simp only at hpt
   by_cases hv6:65536<v
   ·rw[if_neg (by omega)] at hpt
    have HFN:=Lib.hid (HFNN.out hpt)
    have q1:decide ((65536:Int)<(v:Int))=true:=by simp;omega
    have q2:decide (65536<v)=true:=by simp;omega
    clear kg o1 op hpt
    obtain⟨c0,c1',c2',c3'⟩:_∧_∧_∧_:=⟨kp.cell 0,kp.cell 1,kp.cell 2,kp.cell 3⟩
    obtain⟨r0,r1,r2,r3⟩:_∧_∧_∧_:=⟨kr.cell 0,kr.cell 1,kr.cell 2,kr.cell 3⟩
    obtain⟨z0,z1,z2,z3⟩:_∧_∧_∧_:=⟨kr.frozen 0,kr.frozen 1,kr.frozen 2,kr.frozen 3⟩
    simp only[nilV,List.getElem?_cons_zero,List.getElem?_cons_succ] at c0 c1' c2' c3' r0 r1 r2 r3
    have k9:=(((kr.set 0 (.slice A1 n1 c1)).set 1 (.slice none 0 0)).set 2 (.slice none 0 0)).set 3 (.slice none 0 0)
    have f9:=(((F2.setCell (p:=⟨w.heap.size,0,none⟩) (Nat.le_refl _) (.slice A1 n1 c1)).setCell (p:=⟨w.heap.size,1,none⟩) (Nat.le_refl _) (.slice none 0 0)).setCell (p:=⟨w.heap.size,2,none⟩) (Nat.le_refl _) (.slice none 0 0)).setCell (p:=⟨w.heap.size,3,none⟩) (Nat.le_refl _) (.slice none 0 0)
    go_wp2_with fail
    refine bodyPost_ret (k9.sizedT rfl _ rfl Tryz.underlying45 HI.out) rfl ⟨f9,A1,n1,c1,none,0,0,none,0,0,none,0,0,?_,?_⟩
    ·rw[HFW2.out,HFN.out];rfl
    rw[HFW2.out,HFN.out];intro s hs;cases hs
   rw[if_pos (by omega)] at hpt
   have HN:=Lib.hid (H1.out _ hpt)
   have q1:decide ((65536:Int)<(v:Int))=false:=by simp;omega
   have q2:decide (65536<v)=false:=by simp;omega
   have q3:IntKind.i64.wrap (v:Int)=(v:Int):=IntWalk.i64_in _ (by omega)
   obtain⟨w6,hw6⟩:∃y,w4.alloc (.cells #[.int .i64 (v:Int)] 3)=y:=⟨_,rfl⟩
   have fo:Below w4.heap.size w4 w6:=by rw[←hw6];exact (Below.refl _ _).alloc (Nat.le_refl _) _
   have k6:Blk w6 w4.heap.size 3 (inC (v:Int)):=by unfold inC;rw[←hw6];exact Blk.newAt rfl _ _
   have s0:=kp.cell 0
   simp only[List.getElem?_cons_zero,List.getElem?_cons_succ] at s0
   have kp6:=kp.below fo kp.lt
   have kr6:=kr.below fo kr.lt
   have kg6:=kg.below fo kg.lt
   have F6:=F2.trans (fo.mono F2.size)
   have o16:=o1.below (Nat.le_refl _) fo
   have op6:=op.below (Nat.le_refl _) fo
   have r6:=one_ird k6 k6.lt
   have hbase:w.heap.size+1+1≤w6.heap.size:=Nat.le_trans kp.lt fo.size
   have fself:=Below.refl (w.heap.size+1+1) w6
   have KG6:=Lib.hid kg6
   clear k6 o1 op kp kr F2 fo hpt kg kg6
   go_wp2_with (first|(at_builtin;go_must (refine appendRow ZIn inC_len inC_one rfl rfl rfl o16 rfl r6 (by omega) (by simp only[maxLen];omega) fself hbase ?_);intro A7 c7 w7 o7 f7 g7;have hne7:∀q,(Value.slice A1 n1 c1).ownBlock=some q→q≠w.heap.size+1:=(fun q hq=>by have:=(o16.lt q hq).1;omega);have kp7:=kp6.grownNe g7 hne7;have s7:=kp7.cell 0;have z7:=kp7.frozen 0;simp only[List.getElem?_cons_zero,List.getElem?_cons_succ] at s7))
   have ht7:∀q,(Value.slice A1 n1 c1).ownBlock=some q→∃cur,w6.heap[q]?=some (.cells cur 3 (0,0)):=fun q hq=>o16.typed hq
   have kr7:=kr6.grownNe g7 (fun q hq=>by have:=(o16.lt q hq).1;omega)
   have kg7:=KG6.out.grownNe g7 (fun q hq=>typed_ne (ht7 q hq) ⟨_,KG6.out⟩ (by decide))
   have F7:=F6.grown g7 F6.size (fun q hq=>by have:=(o16.lt q hq).1;omega)
   have op7:=op6.other g7 ht7 (by decide)
   have hgn:g≠w.heap.size+1:=by omega
   clear g7 ht7 hne7 o16 op6 kp6 kr6 F6 f7 r6 fself hbase
   go_roundw
   case rel=>exact⟨i+1,A7,n1+1,c7,L1++[(v:Int)],by go_num,by omega,kp7.set 0 _,kr7.setNe (p:=⟨w.heap.size+1,0,none⟩) (by show w.heap.size≠w.heap.size+1;omega) _,kg7.setNe (p:=⟨w.heap.size+1,0,none⟩) hgn _,F7.setCell (p:=⟨w.heap.size+1,0,none⟩) (Nat.le_succ _) _,by have:=HN3.out;omega,HN.out,o7.setLow (p:=⟨w.heap.size+1,0,none⟩) (Nat.lt_succ_self _) _,op7.setLow (p:=⟨w.heap.size+1,0,none⟩) (Nat.lt_succ_self _) _⟩
   case measure=>simp[intOf];omega
  have d5:decide ((i:Int)<(np:Int))=false:=by simp;omega
  have hin:i=P.length:=by omega
  rw[hin,List.take_length] at hmp
  have HL1:=Lib.hid (show listV readPt x0=some L1 by rw[HLV0.out,hmp])
  clear hmp hin hn3 op
  go_wp2_with fail
  go_loopw [11] (fun v11 wr=>∃(i:Nat)(u2 u3 u4:Value),v11=.int .i64 (i:Int)∧Blk wr (w.heap.size+1) 45 [.slice A1 n1 c1,u2,u3,u4]∧Blk wr w.heap.size 45 [nilV,nilV,nilV,nilV]∧Blk wr g 9 (strC [x0,x1,x2,x3])∧Below w.heap.size w wr∧OwnR inC 1 wr (w.heap.size+1+1) 3 (.slice A1 n1 c1) L1∧(∃A n c,u2=.slice A n c)∧(∃A n c,u3=.slice A n c)∧(∃A n c,u4=.slice A n c)∧((i=1∧u2=nilV∧u3=nilV∧u4=nilV)∨(i=2∧RowT wr (w.heap.size+1+1) u2 x1∧u3=nilV∧u4=nilV)∨(i=3∧RowT wr (w.heap.size+1+1) u2 x1∧RowT wr (w.heap.size+1+1) u3 x2∧u4=nilV)∨(i=4∧RowT wr (w.heap.size+1+1) u2 x1∧RowT wr (w.heap.size+1+1) u3 x2∧RowT wr (w.heap.size+1+1) u4 x3))) (fun v11 _=>5-(intOf v11).toNat)
  case atStart=>exact⟨1,nilV,nilV,nilV,rfl,kp,kr,kg,F2,o1,⟨none,0,0,rfl⟩,⟨none,0,0,rfl⟩,⟨none,0,0,rfl⟩,.inl ⟨rfl,rfl,rfl,rfl⟩⟩
  case round =>
   clear kp kr kg F2 o1
   obtain⟨i,u2,u3,u4,rfl,kp,kr,kg,F2,o1,hu2,hu3,hu4,hst⟩:=hrel
   obtain⟨A2,n2,c2,rfl⟩:=hu2
   obtain⟨A3,n3,c3,rfl⟩:=hu3
   obtain⟨A4,n4,c4,rfl⟩:=hu4
   rcases hst with ⟨rfl,h2,h3,h4⟩|⟨rfl,hr2,h3,h4⟩|⟨rfl,hr2,hr3,h4⟩|⟨rfl,hr2,hr3,hr4⟩
   ·injection h2 with h2 h2b h2c
    subst h2 h2b h2c
    injection h3 with h3 h3b h3c
    subst h3 h3b h3c
    injection h4 with h4 h4b h4c
    subst h4 h4b h4c
    have e0:=kg.cell 1
    simp only[strC,List.map_cons,List.map_nil,List.getElem?_cons_zero,List.getElem?_cons_succ] at e0
    have hxe:(strB x1).toList.isEmpty=x1.isEmpty:=by rw[strB_toList]
    by_cases hx:x1=[]
    ·have hxe2:(strB x1).toList.isEmpty=true:=by rw[hxe,hx];rfl
     have hrw:RowT wr (w.heap.size+1+1) nilV x1:=by rw[hx];exact RowT.nil
     have KG:=Lib.hid kg
     clear hxe hx kg
     generalize strB x1=sx at *
     go_wp2_with fail
     go_roundw
     case rel=>exact⟨2,.slice none 0 0,.slice none 0 0,.slice none 0 0,by go_num,kp,kr,KG.out,F2,o1,⟨_,_,_,rfl⟩,⟨_,_,_,rfl⟩,⟨_,_,_,rfl⟩,.inr (.inl ⟨rfl,hrw,rfl,rfl⟩)⟩
     case measure=>simp[intOf]
    have hxe2:(strB x1).toList.isEmpty=false:=by rw[hxe];simpa using hx
    have hT:=rTermsOf_any x1 l1 wr
    obtain⟨o,ho⟩:∃o,mapO readTm (spl 44 x1)=o:=⟨_,rfl⟩
    have hlv:listV readTm x1=o:=by unfold listV;rw[if_neg hx];exact ho
    rw[ho] at hT
    have HLV:=Lib.hid hlv
    have KG:=Lib.hid kg
    obtain⟨sx,hsx⟩:∃y,strB x1=y:=⟨_,rfl⟩
    rw[hsx] at hT e0 hxe2
    clear hxe hx ho hlv hsx kg
    unfold TermsP at hT
    rcases o with _|L
    ·have hno:fw=none:=by
      rw[HFW.out]
      split
      ·simp only[HL1.out,HLV.out]
      rfl
     have HFN:=Lib.hid hno
     clear hno
     go_wp2_with fail
     refine hT.mono ?_
     rintro e w3 ⟨f3,rfl⟩
     replace kp:=kp.below f3 kp.lt
     replace kr:=kr.below f3 kr.lt
     have F3:=F2.trans (f3.mono F2.size)
     clear hT e0 f3 o1
     obtain⟨c0,c1',c2',c3'⟩:_∧_∧_∧_:=⟨kp.cell 0,kp.cell 1,kp.cell 2,kp.cell 3⟩
     obtain⟨r0,r1,r2,r3⟩:_∧_∧_∧_:=⟨kr.cell 0,kr.cell 1,kr.cell 2,kr.cell 3⟩
     obtain⟨z0,z1,z2,z3⟩:_∧_∧_∧_:=⟨kr.frozen 0,kr.frozen 1,kr.frozen 2,kr.frozen 3⟩
     simp only[nilV,List.getElem?_cons_zero,List.getElem?_cons_succ] at c0 c1' c2' c3' r0 r1 r2 r3
     have k9:=(((kr.set 0 (.slice A1 n1 c1)).set 1 (.slice none 0 0)).set 2 (.slice none 0 0)).set 3 (.slice none 0 0)
     have f9:=(((F3.setCell (p:=⟨w.heap.size,0,none⟩) (Nat.le_refl _) (.slice A1 n1 c1)).setCell (p:=⟨w.heap.size,1,none⟩) (Nat.le_refl _) (.slice none 0 0)).setCell (p:=⟨w.heap.size,2,none⟩) (Nat.le_refl _) (.slice none 0 0)).setCell (p:=⟨w.heap.size,3,none⟩) (Nat.le_refl _) (.slice none 0 0)
     go_wp2_with fail
     refine bodyPost_ret (k9.sizedT rfl _ rfl Tryz.underlying45 HI.out) rfl ⟨f9,A1,n1,c1,none,0,0,none,0,0,none,0,0,?_,?_⟩
     ·rw[HFW2.out,HFN.out];rfl
     rw[HFW2.out,HFN.out];intro s hs;cases hs
    go_wp2_with fail
    refine hT.mono ?_
    rintro e w3 ⟨f3,A5,c5,rfl,o5⟩
    have kg3:=KG.out.below f3 KG.out.lt
    have hbs:w.heap.size+1<wr.heap.size:=kp.lt
    replace o1:=(o1.below (Nat.le_refl _) f3).setLow (p:=⟨w.heap.size+1,1,none⟩) (Nat.lt_succ_self _) (.slice A5 L.length c5)
    replace kp:=kp.below f3 kp.lt
    replace kr:=kr.below f3 kr.lt
    have F3:=F2.trans (f3.mono F2.size)
    have x0':=kp.cell 1
    have y0':=kp.frozen 1
    simp only[List.getElem?_cons_zero,List.getElem?_cons_succ] at x0'
    have kp3:=kp.set 1 (.slice A5 L.length c5)
    have kr3:=kr.setNe (p:=⟨w.heap.size+1,1,none⟩) (by show w.heap.size≠w.heap.size+1;omega) (.slice A5 L.length c5)
    have hgn:g≠w.heap.size+1:=by omega
    replace kg3:=kg3.setNe (p:=⟨w.heap.size+1,1,none⟩) hgn (.slice A5 L.length c5)
    have F4:=F3.setCell (p:=⟨w.heap.size+1,1,none⟩) (Nat.le_succ _) (.slice A5 L.length c5)
    have hrw:RowT (w3.setCell ⟨w.heap.size+1,1,none⟩ (.slice A5 L.length c5)) (w.heap.size+1+1) (.slice A5 L.length c5) x1:=⟨⟨_,_,_,rfl⟩,L,HLV.out,(o5.base_le (show w.heap.size+1+1≤wr.heap.size from hbs)).setLow (Nat.lt_succ_self _) _⟩
    have KG3:=Lib.hid kg3
    clear hT e0 f3 hgn kp kr kg3 o5 hbs
    go_wp2_with fail
    go_roundw
    case rel=>exact⟨2,.slice A5 L.length c5,.slice none 0 0,.slice none 0 0,by go_num,kp3,kr3,KG3.out,F4,o1,⟨_,_,_,rfl⟩,⟨_,_,_,rfl⟩,⟨_,_,_,rfl⟩,.inr (.inl ⟨rfl,hrw,rfl,rfl⟩)⟩
    case measure=>simp[intOf]
   ·injection h3 with h3 h3b h3c
    subst h3 h3b h3c
    injection h4 with h4 h4b h4c
    subst h4 h4b h4c
    have e0:=kg.cell 2
    simp only[strC,List.map_cons,List.map_nil,List.getElem?_cons_zero,List.getElem?_cons_succ] at e0
    have hxe:(strB x2).toList.isEmpty=x2.isEmpty:=by rw[strB_toList]
    by_cases hx:x2=[]
    ·have hxe2:(strB x2).toList.isEmpty=true:=by rw[hxe,hx];rfl
     have hrw:RowT wr (w.heap.size+1+1) nilV x2:=by rw[hx];exact RowT.nil
     have KG:=Lib.hid kg
     clear hxe hx kg
     generalize strB x2=sx at *
     go_wp2_with fail
     go_roundw
     case rel=>exact⟨3,.slice A2 n2 c2,.slice none 0 0,.slice none 0 0,by go_num,kp,kr,KG.out,F2,o1,⟨_,_,_,rfl⟩,⟨_,_,_,rfl⟩,⟨_,_,_,rfl⟩,.inr (.inr (.inl ⟨rfl,hr2,hrw,rfl⟩))⟩
     case measure=>simp[intOf]
    have hxe2:(strB x2).toList.isEmpty=false:=by rw[hxe];simpa using hx
    have hT:=rTermsOf_any x2 l2 wr
    obtain⟨o,ho⟩:∃o,mapO readTm (spl 44 x2)=o:=⟨_,rfl⟩
    have hlv:listV readTm x2=o:=by unfold listV;rw[if_neg hx];exact ho
    rw[ho] at hT
    have HLV:=Lib.hid hlv
    have KG:=Lib.hid kg
    obtain⟨sx,hsx⟩:∃y,strB x2=y:=⟨_,rfl⟩
    rw[hsx] at hT e0 hxe2
    clear hxe hx ho hlv hsx kg
    unfold TermsP at hT
    rcases o with _|L
    ·have hno:fw=none:=by
      obtain⟨_,M2,hl2,_⟩:=hr2
      rw[HFW.out]
      split
      ·simp only[HL1.out,hl2,HLV.out]
      rfl
     have HFN:=Lib.hid hno
     clear hno
     go_wp2_with fail
     refine hT.mono ?_
     rintro e w3 ⟨f3,rfl⟩
     replace kp:=kp.below f3 kp.lt
     replace kr:=kr.below f3 kr.lt
     have F3:=F2.trans (f3.mono F2.size)
     clear hT e0 f3 o1
     obtain⟨c0,c1',c2',c3'⟩:_∧_∧_∧_:=⟨kp.cell 0,kp.cell 1,kp.cell 2,kp.cell 3⟩
     obtain⟨r0,r1,r2,r3⟩:_∧_∧_∧_:=⟨kr.cell 0,kr.cell 1,kr.cell 2,kr.cell 3⟩
     obtain⟨z0,z1,z2,z3⟩:_∧_∧_∧_:=⟨kr.frozen 0,kr.frozen 1,kr.frozen 2,kr.frozen 3⟩
     simp only[nilV,List.getElem?_cons_zero,List.getElem?_cons_succ] at c0 c1' c2' c3' r0 r1 r2 r3
     have k9:=(((kr.set 0 (.slice A1 n1 c1)).set 1 (.slice A2 n2 c2)).set 2 (.slice none 0 0)).set 3 (.slice none 0 0)
     have f9:=(((F3.setCell (p:=⟨w.heap.size,0,none⟩) (Nat.le_refl _) (.slice A1 n1 c1)).setCell (p:=⟨w.heap.size,1,none⟩) (Nat.le_refl _) (.slice A2 n2 c2)).setCell (p:=⟨w.heap.size,2,none⟩) (Nat.le_refl _) (.slice none 0 0)).setCell (p:=⟨w.heap.size,3,none⟩) (Nat.le_refl _) (.slice none 0 0)
     go_wp2_with fail
     refine bodyPost_ret (k9.sizedT rfl _ rfl Tryz.underlying45 HI.out) rfl ⟨f9,A1,n1,c1,A2,n2,c2,none,0,0,none,0,0,?_,?_⟩
     ·rw[HFW2.out,HFN.out];rfl
     rw[HFW2.out,HFN.out];intro s hs;cases hs
    go_wp2_with fail
    refine hT.mono ?_
    rintro e w3 ⟨f3,A5,c5,rfl,o5⟩
    have kg3:=KG.out.below f3 KG.out.lt
    have hbs:w.heap.size+1<wr.heap.size:=kp.lt
    replace hr2:=(hr2.below f3).setLow (p:=⟨w.heap.size+1,2,none⟩) (Nat.lt_succ_self _) (.slice A5 L.length c5)
    replace o1:=(o1.below (Nat.le_refl _) f3).setLow (p:=⟨w.heap.size+1,2,none⟩) (Nat.lt_succ_self _) (.slice A5 L.length c5)
    replace kp:=kp.below f3 kp.lt
    replace kr:=kr.below f3 kr.lt
    have F3:=F2.trans (f3.mono F2.size)
    have x0':=kp.cell 2
    have y0':=kp.frozen 2
    simp only[List.getElem?_cons_zero,List.getElem?_cons_succ] at x0'
    have kp3:=kp.set 2 (.slice A5 L.length c5)
    have kr3:=kr.setNe (p:=⟨w.heap.size+1,2,none⟩) (by show w.heap.size≠w.heap.size+1;omega) (.slice A5 L.length c5)
    have hgn:g≠w.heap.size+1:=by omega
    replace kg3:=kg3.setNe (p:=⟨w.heap.size+1,2,none⟩) hgn (.slice A5 L.length c5)
    have F4:=F3.setCell (p:=⟨w.heap.size+1,2,none⟩) (Nat.le_succ _) (.slice A5 L.length c5)
    have hrw:RowT (w3.setCell ⟨w.heap.size+1,2,none⟩ (.slice A5 L.length c5)) (w.heap.size+1+1) (.slice A5 L.length c5) x2:=⟨⟨_,_,_,rfl⟩,L,HLV.out,(o5.base_le (show w.heap.size+1+1≤wr.heap.size from hbs)).setLow (Nat.lt_succ_self _) _⟩
    have KG3:=Lib.hid kg3
    clear hT e0 f3 hgn kp kr kg3 o5 hbs
    go_wp2_with fail
    go_roundw
    case rel=>exact⟨3,.slice A2 n2 c2,.slice A5 L.length c5,.slice none 0 0,by go_num,kp3,kr3,KG3.out,F4,o1,⟨_,_,_,rfl⟩,⟨_,_,_,rfl⟩,⟨_,_,_,rfl⟩,.inr (.inr (.inl ⟨rfl,hr2,hrw,rfl⟩))⟩
    case measure=>simp[intOf]
   ·injection h4 with h4 h4b h4c
    subst h4 h4b h4c
    have e0:=kg.cell 3
    simp only[strC,List.map_cons,List.map_nil,List.getElem?_cons_zero,List.getElem?_cons_succ] at e0
    have hxe:(strB x3).toList.isEmpty=x3.isEmpty:=by rw[strB_toList]
    by_cases hx:x3=[]
    ·have hxe2:(strB x3).toList.isEmpty=true:=by rw[hxe,hx];rfl
     have hrw:RowT wr (w.heap.size+1+1) nilV x3:=by rw[hx];exact RowT.nil
     have KG:=Lib.hid kg
     clear hxe hx kg
     generalize strB x3=sx at *
     go_wp2_with fail
     go_roundw
     case rel=>exact⟨4,.slice A2 n2 c2,.slice A3 n3 c3,.slice none 0 0,by go_num,kp,kr,KG.out,F2,o1,⟨_,_,_,rfl⟩,⟨_,_,_,rfl⟩,⟨_,_,_,rfl⟩,.inr (.inr (.inr ⟨rfl,hr2,hr3,hrw⟩))⟩
     case measure=>simp[intOf]
    have hxe2:(strB x3).toList.isEmpty=false:=by rw[hxe];simpa using hx
    have hT:=rTermsOf_any x3 l3 wr
    obtain⟨o,ho⟩:∃o,mapO readTm (spl 44 x3)=o:=⟨_,rfl⟩
    have hlv:listV readTm x3=o:=by unfold listV;rw[if_neg hx];exact ho
    rw[ho] at hT
    have HLV:=Lib.hid hlv
    have KG:=Lib.hid kg
    obtain⟨sx,hsx⟩:∃y,strB x3=y:=⟨_,rfl⟩
    rw[hsx] at hT e0 hxe2
    clear hxe hx ho hlv hsx kg
    unfold TermsP at hT
    rcases o with _|L
    ·have hno:fw=none:=by
      obtain⟨_,M2,hl2,_⟩:=hr2
      obtain⟨_,M3,hl3,_⟩:=hr3
      rw[HFW.out]
      split
      ·simp only[HL1.out,hl2,hl3,HLV.out]
      rfl
     have HFN:=Lib.hid hno
     clear hno
     go_wp2_with fail
     refine hT.mono ?_
     rintro e w3 ⟨f3,rfl⟩
     replace kp:=kp.below f3 kp.lt
     replace kr:=kr.below f3 kr.lt
     have F3:=F2.trans (f3.mono F2.size)
     clear hT e0 f3 o1
     obtain⟨c0,c1',c2',c3'⟩:_∧_∧_∧_:=⟨kp.cell 0,kp.cell 1,kp.cell 2,kp.cell 3⟩
     obtain⟨r0,r1,r2,r3⟩:_∧_∧_∧_:=⟨kr.cell 0,kr.cell 1,kr.cell 2,kr.cell 3⟩
     obtain⟨z0,z1,z2,z3⟩:_∧_∧_∧_:=⟨kr.frozen 0,kr.frozen 1,kr.frozen 2,kr.frozen 3⟩
     simp only[nilV,List.getElem?_cons_zero,List.getElem?_cons_succ] at c0 c1' c2' c3' r0 r1 r2 r3
     have k9:=(((kr.set 0 (.slice A1 n1 c1)).set 1 (.slice A2 n2 c2)).set 2 (.slice A3 n3 c3)).set 3 (.slice none 0 0)
     have f9:=(((F3.setCell (p:=⟨w.heap.size,0,none⟩) (Nat.le_refl _) (.slice A1 n1 c1)).setCell (p:=⟨w.heap.size,1,none⟩) (Nat.le_refl _) (.slice A2 n2 c2)).setCell (p:=⟨w.heap.size,2,none⟩) (Nat.le_refl _) (.slice A3 n3 c3)).setCell (p:=⟨w.heap.size,3,none⟩) (Nat.le_refl _) (.slice none 0 0)
     go_wp2_with fail
     refine bodyPost_ret (k9.sizedT rfl _ rfl Tryz.underlying45 HI.out) rfl ⟨f9,A1,n1,c1,A2,n2,c2,A3,n3,c3,none,0,0,?_,?_⟩
     ·rw[HFW2.out,HFN.out];rfl
     rw[HFW2.out,HFN.out];intro s hs;cases hs
    go_wp2_with fail
    refine hT.mono ?_
    rintro e w3 ⟨f3,A5,c5,rfl,o5⟩
    have kg3:=KG.out.below f3 KG.out.lt
    have hbs:w.heap.size+1<wr.heap.size:=kp.lt
    replace hr2:=(hr2.below f3).setLow (p:=⟨w.heap.size+1,3,none⟩) (Nat.lt_succ_self _) (.slice A5 L.length c5)
    replace hr3:=(hr3.below f3).setLow (p:=⟨w.heap.size+1,3,none⟩) (Nat.lt_succ_self _) (.slice A5 L.length c5)
    replace o1:=(o1.below (Nat.le_refl _) f3).setLow (p:=⟨w.heap.size+1,3,none⟩) (Nat.lt_succ_self _) (.slice A5 L.length c5)
    replace kp:=kp.below f3 kp.lt
    replace kr:=kr.below f3 kr.lt
    have F3:=F2.trans (f3.mono F2.size)
    have x0':=kp.cell 3
    have y0':=kp.frozen 3
    simp only[List.getElem?_cons_zero,List.getElem?_cons_succ] at x0'
    have kp3:=kp.set 3 (.slice A5 L.length c5)
    have kr3:=kr.setNe (p:=⟨w.heap.size+1,3,none⟩) (by show w.heap.size≠w.heap.size+1;omega) (.slice A5 L.length c5)
    have hgn:g≠w.heap.size+1:=by omega
    replace kg3:=kg3.setNe (p:=⟨w.heap.size+1,3,none⟩) hgn (.slice A5 L.length c5)
    have F4:=F3.setCell (p:=⟨w.heap.size+1,3,none⟩) (Nat.le_succ _) (.slice A5 L.length c5)
    have hrw:RowT (w3.setCell ⟨w.heap.size+1,3,none⟩ (.slice A5 L.length c5)) (w.heap.size+1+1) (.slice A5 L.length c5) x3:=⟨⟨_,_,_,rfl⟩,L,HLV.out,(o5.base_le (show w.heap.size+1+1≤wr.heap.size from hbs)).setLow (Nat.lt_succ_self _) _⟩
    have KG3:=Lib.hid kg3
    clear hT e0 f3 hgn kp kr kg3 o5 hbs
    go_wp2_with fail
    go_roundw
    case rel=>exact⟨4,.slice A2 n2 c2,.slice A3 n3 c3,.slice A5 L.length c5,by go_num,kp3,kr3,KG3.out,F4,o1,⟨_,_,_,rfl⟩,⟨_,_,_,rfl⟩,⟨_,_,_,rfl⟩,.inr (.inr (.inr ⟨rfl,hr2,hr3,hrw⟩))⟩
    case measure=>simp[intOf]
   obtain⟨_,M2,hl2,o2⟩:=hr2
   obtain⟨_,M3,hl3,o3⟩:=hr3
   obtain⟨_,M4,hl4,o4⟩:=hr4
   have hrr:=of_decide_eq_true HRK.out
   have HFS:=Lib.hid (show fw=some ⟨L1,M2,M3,M4⟩ by
    rw[HFW.out,if_pos hrr]
    simp only[HL1.out,hl2,hl3,hl4])
   clear hrr hl2 hl3 hl4 kg
   obtain⟨c0,c1',c2',c3'⟩:_∧_∧_∧_:=⟨kp.cell 0,kp.cell 1,kp.cell 2,kp.cell 3⟩
   obtain⟨r0,r1,r2,r3⟩:_∧_∧_∧_:=⟨kr.cell 0,kr.cell 1,kr.cell 2,kr.cell 3⟩
   obtain⟨z0,z1,z2,z3⟩:_∧_∧_∧_:=⟨kr.frozen 0,kr.frozen 1,kr.frozen 2,kr.frozen 3⟩
   simp only[nilV,List.getElem?_cons_zero,List.getElem?_cons_succ] at c0 c1' c2' c3' r0 r1 r2 r3
   have k9:=(((kr.set 0 (.slice A1 n1 c1)).set 1 (.slice A2 n2 c2)).set 2 (.slice A3 n3 c3)).set 3 (.slice A4 n4 c4)
   have f9:=(((F2.setCell (p:=⟨w.heap.size,0,none⟩) (Nat.le_refl _) (.slice A1 n1 c1)).setCell (p:=⟨w.heap.size,1,none⟩) (Nat.le_refl _) (.slice A2 n2 c2)).setCell (p:=⟨w.heap.size,2,none⟩) (Nat.le_refl _) (.slice A3 n3 c3)).setCell (p:=⟨w.heap.size,3,none⟩) (Nat.le_refl _) (.slice A4 n4 c4)
   go_wp2_with fail
   refine bodyPost_ret (k9.sizedT rfl _ rfl Tryz.underlying45 HI.out) rfl ⟨f9,A1,n1,c1,A2,n2,c2,A3,n3,c3,A4,n4,c4,?_,?_⟩
   ·rw[HFW2.out,HFS.out];rfl
   rw[HFW2.out,HFS.out]
   intro s hs
   injection hs with hs
   subst hs
   exact⟨((((o1.setLow (p:=⟨w.heap.size,0,none⟩) hbl _).setLow (p:=⟨w.heap.size,1,none⟩) hbl _).setLow (p:=⟨w.heap.size,2,none⟩) hbl _).setLow (p:=⟨w.heap.size,3,none⟩) hbl _).base_le (by omega),((((o2.setLow (p:=⟨w.heap.size,0,none⟩) hbl _).setLow (p:=⟨w.heap.size,1,none⟩) hbl _).setLow (p:=⟨w.heap.size,2,none⟩) hbl _).setLow (p:=⟨w.heap.size,3,none⟩) hbl _).base_le (by omega),((((o3.setLow (p:=⟨w.heap.size,0,none⟩) hbl _).setLow (p:=⟨w.heap.size,1,none⟩) hbl _).setLow (p:=⟨w.heap.size,2,none⟩) hbl _).setLow (p:=⟨w.heap.size,3,none⟩) hbl _).base_le (by omega),((((o4.setLow (p:=⟨w.heap.size,0,none⟩) hbl _).setLow (p:=⟨w.heap.size,1,none⟩) hbl _).setLow (p:=⟨w.heap.size,2,none⟩) hbl _).setLow (p:=⟨w.heap.size,3,none⟩) hbl _).base_le (by omega)⟩
end Go.Proofs.YtpcdmbajfmnoiaaGreatDoor
