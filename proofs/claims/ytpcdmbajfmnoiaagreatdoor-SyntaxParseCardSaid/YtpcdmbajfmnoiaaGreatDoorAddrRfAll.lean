/- The document's Digits, Number, byteOf, Print. Conditions: numbers below 1000; texts of a million bytes at most. The document's In, Last, Covers. Condition: an address of 32 bits, bits that fit an int. The document's Cut, Parse, PrintNet, ParseNet. Conditions: texts of a million bytes at most. The document's PrintNet, ParseNet. Conditions: texts of a million bytes at most. -/
import Derived.Test.YtpcdmbajfmnoiaaGreatDoorSynParseAll
import Derived.Test.YtpcdmbajfmnoiaaGreatDoorAddrPn
import Derived.Test.YtpcdmbajfmnoiaaGreatDoorFacts
import Derived.IntWalk
import Derived.Test.YtpcdmbajfmnoiaaGreatDoorAddrAB
namespace Go.Proofs.YtpcdmbajfmnoiaaGreatDoor
set_option linter.unusedVariables false
set_option linter.unusedSimpArgs false
open Go.RowKit Go.Sort
theorem decD(n:Nat)(h:¬n<10):Lib.decDigits n=Lib.decDigits (n/10)++[UInt8.ofNat (48+n%10)]:=by rw[Lib.decDigits,dif_neg h]
theorem dec_len(n:Nat)(h:n<1000):(Lib.decDigits n).length≤3:=by
 rw[dec_dig3 h]
 unfold dig3
 split
 ·simp
 split<;>simp
theorem bv_of(r:Nat)(h:r<10):(Value.int .u8 (48+(r:Int)))=bv (UInt8.ofNat (48+r)):=by
 unfold bv
 congr 1
 rw[UInt8.toNat_ofNat']
 omega
theorem one_bv(w:World)(b:UInt8):RdB (w.alloc (.cells #[bv b] 5)) (w.alloc (.cells #[bv b] 5)).heap.size (some ⟨w.heap.size,0,none⟩) 1 [b]:=by
 have k:=Blk.of_new w 5 (bvs [b])
 exact k.rdB rfl
theorem TB:ByteTy Tryz.prog 123 5:=⟨Tryz.underlying123,Tryz.underlying5,by kernel_rfl⟩
set_option maxRecDepth 100000 in
set_option maxHeartbeats 4000000 in
theorem refDig_step(n:Nat)(hn:n<1000)(ih:¬n<10→∀w,Calls Tryz.prog 84 #[.int .i64 ((n/10:Nat):Int)] w fun e w'=>e=.returned (.string (strB (Lib.decDigits (n/10))))∧Below w.heap.size w w')(w:World) :
  Calls Tryz.prog 84 #[.int .i64 (n:Int)] w fun e w'=>e=.returned (.string (strB (Lib.decDigits n)))∧Below w.heap.size w w':=by
 by_cases h10:n<10
 ·have d0:decide ((n:Int)<10)=true:=by simp;omega
  have b0:(0:Int)≤(n:Int):=by omega
  have b1:(n:Int)≤9:=by omega
  have BV:=bv_of n h10
  have hd:=Lib.decDigits_one h10
  rw[hd]
  have one:=fun u:World=>one_bv u (UInt8.ofNat (48+n))
  obtain⟨y,hy⟩:∃y,UInt8.ofNat (48+n)=y:=⟨_,rfl⟩
  rw[hy] at BV one ⊢
  clear hd hy
  have w8:IntKind.u8.wrap (48+(n:Int))=48+(n:Int):=IntWalk.u8_in _ (by omega)
  have hr:=fun(u:World)(r:RdB u u.heap.size (some ⟨w.heap.size,0,none⟩) 1 [y])=>run_str (w:=u) TB r 1 9 Tryz.underlying9
  have hr1:=hr _ (one w)
  rw[←BV] at hr1
  clear hr one BV
  go_enter Tryz.func84,Tryz.ntmps84
  go_wp2_with fail
  go_ret
  exact⟨rfl,(Below.refl _ w).alloc (Nat.le_refl _) _⟩
 have d0:decide ((n:Int)<10)=false:=by simp;omega
 replace ih:=ih h10
 have b0:(0:Int)≤(n:Int):=by omega
 have b1:(n:Int)≤999:=by omega
 have hr:=Nat.mod_lt n (show 0<10 by omega)
 have BV:=Lib.hid (bv_of (n%10) hr)
 have hq:strB (Lib.decDigits n)=strB (Lib.decDigits (n/10))++strB [UInt8.ofNat (48+n%10)]:=by rw[strB_app,←decD n h10]
 have hz:(strB (Lib.decDigits (n/10))).size≤3:=by rw[strB_size];exact dec_len _ (by omega)
 have hz1:(strB [UInt8.ofNat (48+n%10)]).size=1:=strB_size _
 have R11:(n:Int)%10=((n%10:Nat):Int):=by omega
 have T11:(n:Int).tmod 10=((n%10:Nat):Int):=by rw[Int.tmod_eq_emod_of_nonneg (by omega)];omega
 have E11:(n:Int)/10=((n/10:Nat):Int):=by omega
 have hk1:n/10≤99:=by omega
 obtain⟨q,hqq⟩:∃q,strB (Lib.decDigits n)=q:=⟨_,rfl⟩
 rw[hqq] at hq ⊢
 generalize strB (Lib.decDigits (n/10))=p at *
 obtain⟨y,hy⟩:∃y,UInt8.ofNat (48+n%10)=y:=⟨_,rfl⟩
 rw[hy] at BV hq hz1
 have HQ:=Lib.hid hq.symm
 clear hq hqq hy
 generalize n%10=m at *
 generalize n/10=k at *
 have m0:(0:Int)≤(m:Int):=by omega
 have m1:(m:Int)≤9:=by omega
 have k0:(0:Int)≤(k:Int):=by omega
 have k1:(k:Int)≤99:=by omega
 have w8:IntKind.u8.wrap (48+(m:Int))=48+(m:Int):=IntWalk.u8_in _ (by omega)
 have v48:IntKind.i64.wrap (48+(m:Int))=48+(m:Int):=IntWalk.i64_in _ (by omega)
 have vm:IntKind.i64.wrap (m:Int)=(m:Int):=IntWalk.i64_in _ (by omega)
 have vk:IntKind.i64.wrap (k:Int)=(k:Int):=IntWalk.i64_in _ (by omega)
 have zs:¬9223372036854775807<p.size+(strB [y]).size:=by omega
 have zt:¬9223372036854775807<p.size+1:=by omega
 go_enter Tryz.func84,Tryz.ntmps84
 go_upto_region 3 with fail
 refine wp_region_facts (fun u=>Below w.heap.size w u) [
   fun v _=>v=.int .i64 (n:Int),
   fun v _=>v=.int .i64 (k:Int),
   fun v _=>v=.string p,
   fun v _=>v=.int .i64 (n:Int),
   fun v _=>v=.int .i64 (m:Int),
   fun v _=>v=.int .i64 (48+(m:Int)),
   fun v _=>v=.int .u8 (48+(m:Int)),
   fun v u=>∃g,v=.slice (some ⟨g,0,none⟩) 1 1∧RdB u u.heap.size (some ⟨g,0,none⟩) 1 [y],
   fun v _=>v=.string (strB [y]),
   fun v _=>v=.string q,
   fun v _=>v=.string q] (fun u u'=>Below u.heap.size u u')
   [[],[0],[1],[],[3],[4],[5],[6],[7],[2,8],[9]] []
   (by kernel_rfl) (by kernel_rfl) ?_ (fun _ _ _ _ _ h=>h) ((Below.refl _ _).drew) ?_ ?_
 ·refine hE_of (fun u u' h f=>f.trans (h.mono f.size)) ?_
  repeat' (first|exact mono_nil|refine mono_cons (fun v u u' h=>?_) ?_)
  all_goals first|exact _root_.id|(rintro ⟨g,e,r⟩;exact⟨g,e,(r.below h).more h.size⟩)
 ·
  refine owed_cons (fun vs u hS hD N=>?_) ?_
  ·clear hD
   intro hN
   simp only[fact,layAt,depOn,dstOf,List.map_cons,List.map_nil,List.foldl_cons,List.foldl_nil,List.getD_cons_zero,List.getD_cons_succ,List.getElem?_cons_zero,List.getElem?_cons_succ,Option.bind_some] at hN ⊢
   go_simp
   have hh:=hN _ _ rfl (.inl (Below.refl _ _))
   revert hh
   go_simp
  refine owed_cons (fun vs u hS hD N=>?_) ?_
  ·have d0:=hD 0 (by decide)
   simp only[fact,layAt,depOn,dstOf,List.map_cons,List.map_nil,List.foldl_cons,List.foldl_nil,List.getD_cons_zero,List.getD_cons_succ,List.getElem?_cons_zero,List.getElem?_cons_succ,Option.bind_some] at d0
   clear hD
   intro hN
   simp only[fact,layAt,depOn,dstOf,List.map_cons,List.map_nil,List.foldl_cons,List.foldl_nil,List.getD_cons_zero,List.getD_cons_succ,List.getElem?_cons_zero,List.getElem?_cons_succ,Option.bind_some,d0] at hN ⊢
   go_simp
   have hh:=hN _ _ rfl (.inl (Below.refl _ _))
   revert hh
   go_simp
  refine owed_cons (fun vs u hS hD N=>?_) ?_
  ·have d1:=hD 1 (by decide)
   simp only[fact,layAt,depOn,dstOf,List.map_cons,List.map_nil,List.foldl_cons,List.foldl_nil,List.getD_cons_zero,List.getD_cons_succ,List.getElem?_cons_zero,List.getElem?_cons_succ,Option.bind_some] at d1
   clear hD
   intro hN
   simp only[fact,layAt,depOn,dstOf,List.map_cons,List.map_nil,List.foldl_cons,List.foldl_nil,List.getD_cons_zero,List.getD_cons_succ,List.getElem?_cons_zero,List.getElem?_cons_succ,Option.bind_some,d1] at hN ⊢
   go_simp
   refine (ih _).mono ?_
   rintro e u' ⟨rfl,f⟩
   have hh:=hN _ _ rfl (.inl f)
   revert hh
   go_simp
  refine owed_cons (fun vs u hS hD N=>?_) ?_
  ·clear hD
   intro hN
   simp only[fact,layAt,depOn,dstOf,List.map_cons,List.map_nil,List.foldl_cons,List.foldl_nil,List.getD_cons_zero,List.getD_cons_succ,List.getElem?_cons_zero,List.getElem?_cons_succ,Option.bind_some] at hN ⊢
   go_simp
   have hh:=hN _ _ rfl (.inl (Below.refl _ _))
   revert hh
   go_simp
  refine owed_cons (fun vs u hS hD N=>?_) ?_
  ·have d3:=hD 3 (by decide)
   simp only[fact,layAt,depOn,dstOf,List.map_cons,List.map_nil,List.foldl_cons,List.foldl_nil,List.getD_cons_zero,List.getD_cons_succ,List.getElem?_cons_zero,List.getElem?_cons_succ,Option.bind_some] at d3
   clear hD
   intro hN
   simp only[fact,layAt,depOn,dstOf,List.map_cons,List.map_nil,List.foldl_cons,List.foldl_nil,List.getD_cons_zero,List.getD_cons_succ,List.getElem?_cons_zero,List.getElem?_cons_succ,Option.bind_some,d3] at hN ⊢
   go_simp
   have hh:=hN _ _ rfl (.inl (Below.refl _ _))
   revert hh
   go_simp
  refine owed_cons (fun vs u hS hD N=>?_) ?_
  ·have d4:=hD 4 (by decide)
   simp only[fact,layAt,depOn,dstOf,List.map_cons,List.map_nil,List.foldl_cons,List.foldl_nil,List.getD_cons_zero,List.getD_cons_succ,List.getElem?_cons_zero,List.getElem?_cons_succ,Option.bind_some] at d4
   clear hD
   intro hN
   simp only[fact,layAt,depOn,dstOf,List.map_cons,List.map_nil,List.foldl_cons,List.foldl_nil,List.getD_cons_zero,List.getD_cons_succ,List.getElem?_cons_zero,List.getElem?_cons_succ,Option.bind_some,d4] at hN ⊢
   go_simp
   have hh:=hN _ _ rfl (.inl (Below.refl _ _))
   revert hh
   go_simp
  refine owed_cons (fun vs u hS hD N=>?_) ?_
  ·have d5:=hD 5 (by decide)
   simp only[fact,layAt,depOn,dstOf,List.map_cons,List.map_nil,List.foldl_cons,List.foldl_nil,List.getD_cons_zero,List.getD_cons_succ,List.getElem?_cons_zero,List.getElem?_cons_succ,Option.bind_some] at d5
   clear hD
   intro hN
   simp only[fact,layAt,depOn,dstOf,List.map_cons,List.map_nil,List.foldl_cons,List.foldl_nil,List.getD_cons_zero,List.getD_cons_succ,List.getElem?_cons_zero,List.getElem?_cons_succ,Option.bind_some,d5] at hN ⊢
   go_simp
   have hh:=hN _ _ rfl (.inl (Below.refl _ _))
   revert hh
   go_simp
  refine owed_cons (fun vs u hS hD N=>?_) ?_
  ·have d6:=hD 6 (by decide)
   simp only[fact,layAt,depOn,dstOf,List.map_cons,List.map_nil,List.foldl_cons,List.foldl_nil,List.getD_cons_zero,List.getD_cons_succ,List.getElem?_cons_zero,List.getElem?_cons_succ,Option.bind_some] at d6
   clear hD
   intro hN
   simp only[fact,layAt,depOn,dstOf,List.map_cons,List.map_nil,List.foldl_cons,List.foldl_nil,List.getD_cons_zero,List.getD_cons_succ,List.getElem?_cons_zero,List.getElem?_cons_succ,Option.bind_some,d6] at hN ⊢
   go_simp
   have kk:RdB (u.alloc (.cells #[.int .u8 (48+(m:Int))] 5)) (u.alloc (.cells #[.int .u8 (48+(m:Int))] 5)).heap.size (some ⟨u.heap.size,0,none⟩) 1 [y]:=by rw[BV.out];exact one_bv u y
   have hh:=hN _ _ ⟨u.heap.size,rfl,kk⟩ (.inl ((Below.refl _ u).alloc (Nat.le_refl _) _))
   revert hh
   go_simp
  refine owed_cons (fun vs u hS hD N=>?_) ?_
  ·have d7:=hD 7 (by decide)
   simp only[fact,layAt,depOn,dstOf,List.map_cons,List.map_nil,List.foldl_cons,List.foldl_nil,List.getD_cons_zero,List.getD_cons_succ,List.getElem?_cons_zero,List.getElem?_cons_succ,Option.bind_some] at d7
   obtain⟨g,e7,rY⟩:=d7
   clear hD
   intro hN
   simp only[fact,layAt,depOn,dstOf,List.map_cons,List.map_nil,List.foldl_cons,List.foldl_nil,List.getD_cons_zero,List.getD_cons_succ,List.getElem?_cons_zero,List.getElem?_cons_succ,Option.bind_some,e7] at hN ⊢
   rw[if_pos (by rfl)]
   have hr:=run_str (w:=u) TB rY 1 9 Tryz.underlying9
   go_simp
   have hh:=hN _ _ rfl (.inl (Below.refl _ _))
   revert hh
   go_simp
  refine owed_cons (fun vs u hS hD N=>?_) ?_
  ·have d2:=hD 2 (by decide)
   simp only[fact,layAt,depOn,dstOf,List.map_cons,List.map_nil,List.foldl_cons,List.foldl_nil,List.getD_cons_zero,List.getD_cons_succ,List.getElem?_cons_zero,List.getElem?_cons_succ,Option.bind_some] at d2
   have d8:=hD 8 (by decide)
   simp only[fact,layAt,depOn,dstOf,List.map_cons,List.map_nil,List.foldl_cons,List.foldl_nil,List.getD_cons_zero,List.getD_cons_succ,List.getElem?_cons_zero,List.getElem?_cons_succ,Option.bind_some] at d8
   clear hD
   intro hN
   simp only[fact,layAt,depOn,dstOf,List.map_cons,List.map_nil,List.foldl_cons,List.foldl_nil,List.getD_cons_zero,List.getD_cons_succ,List.getElem?_cons_zero,List.getElem?_cons_succ,Option.bind_some,d2,d8] at hN ⊢
   go_simp
   have hh:=hN (.string (p++strB [y])) _ (by rw[HQ.out]) (.inl (Below.refl _ _))
   revert hh
   go_simp
  refine owed_cons (fun vs u hS hD N=>?_) ?_
  ·have d9:=hD 9 (by decide)
   simp only[fact,layAt,depOn,dstOf,List.map_cons,List.map_nil,List.foldl_cons,List.foldl_nil,List.getD_cons_zero,List.getD_cons_succ,List.getElem?_cons_zero,List.getElem?_cons_succ,Option.bind_some] at d9
   clear hD
   intro hN
   simp only[fact,layAt,depOn,dstOf,List.map_cons,List.map_nil,List.foldl_cons,List.foldl_nil,List.getD_cons_zero,List.getD_cons_succ,List.getElem?_cons_zero,List.getElem?_cons_succ,Option.bind_some,d9] at hN ⊢
   go_simp
   have hh:=hN _ _ rfl (.inl (Below.refl _ _))
   revert hh
   go_simp
  exact owed_nil
 
 intro vs u hS hF
 have d10:=hF 10 (by decide) (by decide)
 simp only[fact,layAt,depOn,dstOf,List.map_cons,List.map_nil,List.foldl_cons,List.foldl_nil,List.getD_cons_zero,List.getD_cons_succ,List.getElem?_cons_zero,List.getElem?_cons_succ,Option.bind_some] at d10
 clear hF
 simp only[List.length_cons,List.length_nil,Nat.reduceAdd,List.range,List.range.loop,fact,layAt,depOn,dstOf,List.map_cons,List.map_nil,List.foldl_cons,List.foldl_nil,List.getD_cons_zero,List.getD_cons_succ,List.getElem?_cons_zero,List.getElem?_cons_succ,Option.bind_some,d10]
 go_simp
 go_wp2_with fail
 go_ret
 exact⟨rfl,hS⟩
theorem refDig_any:∀(k n:Nat),n<10^k→n<1000→∀w:World,Calls Tryz.prog 84 #[.int .i64 (n:Int)] w fun e w'=>e=.returned (.string (strB (Lib.decDigits n)))∧Below w.heap.size w w'
 | 0,n,hk,hn,w=>refDig_step n hn (fun h=>absurd hk (by omega)) w
 | k+1,n,hk,hn,w=>refDig_step n hn (fun h w=>refDig_any k (n/10) (by rw[Nat.pow_succ] at hk;omega) (by omega) w) w
theorem refDigits_any(n:Nat)(hn:n<1000)(w:World):Calls Tryz.prog 84 #[.int .i64 (n:Int)] w fun e w'=>e=.returned (.string (strB (Lib.decDigits n)))∧Below w.heap.size w w':=refDig_any 3 n hn hn w
set_option maxRecDepth 100000 in
set_option maxHeartbeats 4000000 in
theorem refNumber_any(l:List UInt8)(most:Nat)(hm:most<256)(hl:l.length≤1000000)(w:World) :
  Calls Tryz.prog 141 #[.string (strB l),.int .i64 (most:Int)] w fun e w'=>e=.returned (.int .i64 (smallS l most))∧Below w.heap.size w w':=by
 obtain⟨r,hr⟩:∃r,smallS l most=r:=⟨_,rfl⟩
 rw[hr]
 have HR:=Lib.hid hr;clear hr
 have zz:(strB l).size=l.length:=strB_size l
 have hget:∀(k:Nat)(h:k<l.length),(strB l)[k]'(by rw[zz];exact h)=l[k]:=fun k h=>by
  rfl
 obtain⟨s,hs⟩:∃s,strB l=s:=⟨_,rfl⟩
 rw[hs]
 rw[hs] at zz
 have HG:∀(k:Nat)(h:k<l.length)(h':k<s.size),s[k]=l[k]:=fun k h h'=>by
  subst hs;exact hget k h
 have hzl:s.toList=l:=by rw[←hs];exact strB_toList l
 have HG2:=Lib.hid HG
 have HZL:=Lib.hid hzl
 clear HG hget hs hzl
 have zz2:s.size≤1000000:=by omega
 have HZ:=Lib.hid zz;clear zz
 have mb0:(0:Int)≤(most:Int):=by omega
 go_enter Tryz.func141,Tryz.ntmps141
 go_wp2_with fail
 go_loop [5,6] (fun s5 s6=>∃i n:Nat,i≤l.length∧s6=.int .i64 (i:Int)∧s5=.int .i64 (n:Int)∧n≤10*most+9∧numS most (l.drop i) n=numS most l 0) (fun _ s6=>l.length-(intOf s6).toNat)
 case atStart=>exact⟨0,0,Nat.zero_le _,rfl,rfl,by omega,rfl⟩
 case round =>
  obtain⟨i,n,hil,rfl,rfl,hnb,hst⟩:=hrel
  have HST:=Lib.hid hst;clear hst
  by_cases hlt:i<l.length
  ·have his:i<s.size:=by rw[HZ.out];exact hlt
   have d0:decide ((i:Int)<(s.size:Int))=true:=by simp;omega
   have b0:(0:Int)≤(i:Int):=by omega
   have b1:(i:Int)<(s.size:Int):=by omega
   have hg:=HG2.out i hlt his
   obtain⟨c,hc⟩:∃c,s[i]=c:=⟨_,rfl⟩
   have hcl:l[i]=c:=by rw[←hg,hc]
   have HCL:=Lib.hid hcl
   have HC:=Lib.hid hc
   clear hg hcl
   have hcb:c.toNat<256:=c.toNat_lt
   by_cases hbad:numBad c n most=true
   ·have hnone:=numS_bad (most:=most) (n:=n) hlt (by rw[HCL.out];exact hbad)
    rw[HST.out] at hnone
    have hr1:r= -1:=by rw[←HR.out];exact num_none hm hnone
    subst hr1
    clear hnone
    by_cases c1:c.toNat<48
    ·have d1:decide ((c.toNat:Int)<48)=true:=by simp;omega
     clear hbad
     go_wp2_with fail
     go_ret
     exact⟨rfl,Below.refl _ _⟩
    have d1:decide ((c.toNat:Int)<48)=false:=by simp;omega
    by_cases c2:57<c.toNat
    ·have d2:decide ((57:Int)<(c.toNat:Int))=true:=by simp;omega
     clear hbad
     go_wp2_with fail
     go_ret
     exact⟨rfl,Below.refl _ _⟩
    have d2:decide ((57:Int)<(c.toNat:Int))=false:=by simp;omega
    have c3:most<n:=by
     unfold numBad at hbad
     simp only[Bool.or_eq_true,decide_eq_true_eq] at hbad
     omega
    have d3:decide ((most:Int)<(n:Int))=true:=by simp;omega
    have d3':decide (most<n)=true:=by simp;omega
    clear hbad
    go_wp2_with fail
    go_ret
    exact⟨rfl,Below.refl _ _⟩
   have hbf:numBad c n most=false:=by simpa using hbad
   have hnx:=numS_cons (most:=most) (n:=n) hlt (by rw[HCL.out];exact hbf)
   rw[HST.out,HCL.out] at hnx
   have HNX:=Lib.hid hnx
   have hcs:48≤c.toNat∧c.toNat≤57∧n≤most:=by
    unfold numBad at hbad
    simp only[Bool.or_eq_true,decide_eq_true_eq] at hbad
    omega
   obtain⟨c1,c2,c3⟩:=hcs
   have d1:decide ((c.toNat:Int)<48)=false:=by simp;omega
   have d2:decide ((57:Int)<(c.toNat:Int))=false:=by simp;omega
   have d3:decide ((most:Int)<(n:Int))=false:=by simp;omega
   have d3':decide (most<n)=false:=by simp;omega
   have wv:IntKind.u8.wrap ((c.toNat:Int)-48)=(c.toNat:Int)-48:=IntWalk.u8_in _ (by omega)
   clear hnx hbad hbf
   go_wp2_with fail
   go_round
   case rel=>exact⟨i+1,10*n+(c.toNat-48),by omega,by go_num,congrArg (Value.int .i64) (by omega),by omega,HNX.out.symm⟩
   case measure=>simp[intOf];omega
  have hzz:=HZ.out
  have d0:decide ((i:Int)<(s.size:Int))=false:=by simp;omega
  have d0':¬i<s.size:=by omega
  clear hzz
  obtain rfl:i=l.length:=by omega
  have hsome:numS most l 0=some n:=by
   rw[←HST.out,List.drop_of_length_le (Nat.le_refl _)];rfl
  have hv:=num_some hm hsome
  rw[HR.out] at hv
  clear hsome HST
  by_cases c3:most<n
  ·have d3:decide ((most:Int)<(n:Int))=true:=by simp;omega
   have d3':decide (most<n)=true:=by simp;omega
   rw[if_neg (by omega)] at hv
   subst hv
   go_wp2_with fail
   go_ret
   exact⟨rfl,Below.refl _ _⟩
  have d3:decide ((most:Int)<(n:Int))=false:=by simp;omega
  have d3':decide (most<n)=false:=by simp;omega
  have hd:=fun w=>refDigits_any n (by omega) w
  by_cases he:Lib.decDigits n=l
  ·rw[if_pos ⟨by omega,he⟩] at hv
   subst hv
   have hzl:=HZL.out
   have de:((strB (Lib.decDigits n)).toList==s.toList)=true:=by rw[strB_toList,he,hzl];simp
   have de2:((strB (Lib.decDigits n)).toList !=s.toList)=false:=by rw[strB_toList,he,hzl];simp
   have de3:(Lib.decDigits n==s.toList)=true:=by rw[he,hzl];simp
   have de4:(Lib.decDigits n !=s.toList)=false:=by rw[he,hzl];simp
   clear he hzl
   go_wp2_with fail
   refine (hd _).mono ?_
   rintro _ w9 ⟨rfl,f9⟩
   go_wp2_with fail
   go_ret
   exact⟨rfl,f9⟩
  rw[if_neg (fun h=>he h.2)] at hv
  subst hv
  have hzl:=HZL.out
  have de3:(Lib.decDigits n==s.toList)=false:=by rw[hzl,beq_eq_false_iff_ne];exact he
  have de4:(Lib.decDigits n !=s.toList)=true:=by rw[hzl,bne_iff_ne];exact he
  have de:((strB (Lib.decDigits n)).toList==s.toList)=false:=by rw[strB_toList];exact de3
  have de2:((strB (Lib.decDigits n)).toList !=s.toList)=true:=by rw[strB_toList];exact de4
  clear he hzl
  go_wp2_with fail
  refine (hd _).mono ?_
  rintro _ w9 ⟨rfl,f9⟩
  go_wp2_with fail
  go_ret
  exact⟨rfl,f9⟩
theorem ext_str(l:List UInt8)(f i:Nat):(strB l).extract f i=strB ((l.drop f).take (i-f)):=by
 unfold strB
 apply ByteArray.ext
 simp[ByteArray.data_extract]
def CutS(c:UInt8)(l:List UInt8)(D:List (List UInt8))(f i:Nat):Prop:=CutAt c l D f i∨(i=l.length+1∧D=spl c l)
theorem CutS.len{c:UInt8}{l:List UInt8}{D:List (List UInt8)}{f i:Nat}(h:CutS c l D f i):D.length≤l.length+1∧i≤l.length+1:=by
 have hs:=spl_len c l
 rcases h with h|⟨h1,h2⟩
 ·have e:=congrArg List.length h.eq
  rw[List.length_append] at e
  have:=h.li
  omega
 rw[h2];omega
set_option maxRecDepth 100000 in
set_option maxHeartbeats 4000000 in
theorem refCut_any(l:List UInt8)(c:UInt8)(hl:l.length≤1000000)(w:World) :
  Calls Tryz.prog 139 #[.string (strB l),.int .u8 (c.toNat:Int)] w fun e w'=>∃A n cp,e=.returned (.slice A n cp)∧RdR sC 1 w' w'.heap.size A n (spl c l)∧Below w.heap.size w w':=by
 have zz:(strB l).size=l.length:=strB_size l
 have HG:∀(k:Nat)(h:k<l.length)(h':k<(strB l).size),(strB l)[k]=l[k]:=fun k h h'=>rfl
 have HX:∀f i:Nat,(strB l).extract f i=strB ((l.drop f).take (i-f)):=ext_str l
 obtain⟨s,hs⟩:∃s,strB l=s:=⟨_,rfl⟩
 rw[hs] at zz HX ⊢
 have HG':∀(k:Nat)(h:k<l.length)(h':k<s.size),s[k]=l[k]:=by subst hs;exact HG
 clear HG hs
 have HG:=HG'
 clear HG'
 have HG2:=Lib.hid HG
 have HX2:=Lib.hid HX
 clear HG HX
 have zz2:s.size≤1000000:=by omega
 have HZ:=Lib.hid zz;clear zz
 have hcb:c.toNat<256:=c.toNat_lt
 go_enter Tryz.func139,Tryz.ntmps139
 go_wp2_with fail
 go_loopw [5,6,7] (fun s5 s6 s7 wr=>∃(D:List (List UInt8)) (f i n:Nat) (A:Option Addr) (cp:Nat),s5=.slice A n cp∧D.length=n∧s6=.int .i64 (f:Int)∧s7=.int .i64 (i:Int)∧CutS c l D f i∧OwnR sC 1 wr w.heap.size 9 (.slice A n cp) D∧Below w.heap.size w wr) (fun _ _ s7 _=>l.length+1-(intOf s7).toNat)
 case atStart=>exact⟨[],0,0,0,none,0,rfl,rfl,rfl,rfl,.inl (cutAt_start c l),OwnR.nil,Below.refl _ _⟩
 case round =>
  obtain⟨D,f,i,n,A,cp,rfl,hDn,rfl,rfl,hcs,o1,f1⟩:=hrel
  have hlen:=hcs.len
  obtain⟨hlen1,hlen2⟩:=hlen
  have hcap:=o1.cap
  by_cases hlt:i<l.length
  ·have hca:CutAt c l D f i:=by
    rcases hcs with h|⟨h,_⟩
    ·exact h
    omega
   have hfi:=hca.le
   have HCA:=Lib.hid hca
   clear hca hcs
   have his:i<s.size:=by rw[HZ.out];exact hlt
   have d0:decide ((i:Int)≤(s.size:Int))=true:=by simp;omega
   have d1:((i:Int)==(s.size:Int))=false:=by rw[beq_eq_false_iff_ne];omega
   have b0:(0:Int)≤(i:Int):=by omega
   have b1:(i:Int)<(s.size:Int):=by omega
   have hg:=HG2.out i hlt his
   obtain⟨y,hy⟩:∃y,s[i]=y:=⟨_,rfl⟩
   have hyl:l[i]=y:=by rw[←hg,hy]
   have HYL:=Lib.hid hyl
   have HY:=Lib.hid hy
   clear hg hyl hy
   have hyb:y.toNat<256:=y.toNat_lt
   by_cases hyc:y=c
   ·have d2:((s[i].toNat:Int)==(c.toNat:Int))=true:=by rw[HY.out,hyc];simp
    have hx:=HX2.out f i
    obtain⟨p,hp⟩:∃p,(l.drop f).take (i-f)=p:=⟨_,rfl⟩
    rw[hp] at hx
    have HN:=Lib.hid (show CutS c l (D++[p]) (i+1) (i+1) by rw[←hp];exact .inl (cutAt_hit HCA.out hlt (by rw[HYL.out];exact hyc)))
    clear hp
    have c0:(0:Int)≤(f:Int):=by omega
    have c1:(f:Int)≤(i:Int):=by omega
    have c2:(i:Int)≤(s.size:Int):=by omega
    have oz:=one_str wr p (wr.heap.size+1) (by omega)
    have hbp:Below w.heap.size wr (wr.alloc (.cells #[.string (strB p)] 9)):=(Below.refl _ _).alloc f1.size _
    go_wp2_with (first|(at_builtin;go_must (refine appendRow TS sC_len sC_one rfl rfl rfl (o1.below (Nat.le_refl _) ((Below.refl _ wr).alloc (Nat.le_refl _) _)) rfl oz (by omega) (by simp only[maxLen];omega) hbp f1.size ?_);intro A5 c5 w5 o5 f5 g5))
    have f6:=f1.trans f5
    clear g5 oz hbp f5 f1 o1
    go_roundw
    case rel=>exact⟨D++[p],i+1,i+1,n+1,A5,c5,rfl,by rw[List.length_append];simp;omega,by go_num,by go_num,HN.out,o5,f6⟩
    case measure=>simp[intOf];omega
   have d2:((s[i].toNat:Int)==(c.toNat:Int))=false:=by
    rw[beq_eq_false_iff_ne,HY.out]
    intro e
    exact hyc (UInt8.toNat_inj.1 (by omega))
   have HN:=Lib.hid (show CutS c l D f (i+1) from .inl (cutAt_miss HCA.out hlt (by rw[HYL.out];exact hyc)))
   clear hyc
   go_wp2_with fail
   go_roundw
   case rel=>exact⟨D,f,i+1,n,A,cp,rfl,hDn,rfl,by go_num,HN.out,o1,f1⟩
   case measure=>simp[intOf];omega
  by_cases hle:i=l.length
  ·subst hle
   have hca:CutAt c l D f l.length:=by
    rcases hcs with h|⟨h,_⟩
    ·exact h
    omega
   have hfi:=hca.le
   have hx:=HX2.out f l.length
   obtain⟨p,hp⟩:∃p,(l.drop f).take (l.length-f)=p:=⟨_,rfl⟩
   rw[hp] at hx
   have HN:=Lib.hid (show CutS c l (D++[p]) (l.length+1) (l.length+1) by rw[←hp];exact .inr ⟨rfl,cutAt_end hca⟩)
   clear hp hca hcs
   have hz:=HZ.out
   rw[←hz] at hx HN hlen1 hfi ⊢
   clear hlt hlen2 hz
   have d0:decide ((s.size:Int)≤(s.size:Int))=true:=by simp
   have d1:((s.size:Int)==(s.size:Int))=true:=by simp
   have c0:(0:Int)≤(f:Int):=by omega
   have c1:(f:Int)≤(s.size:Int):=by omega
   have c2:(s.size:Int)≤(s.size:Int):=by omega
   have c3:(0:Int)≤(s.size:Int):=by omega
   have oz:=one_str wr p (wr.heap.size+1) (by omega)
   have hbp:Below w.heap.size wr (wr.alloc (.cells #[.string (strB p)] 9)):=(Below.refl _ _).alloc f1.size _
   go_wp2_with (first|(at_builtin;go_must (refine appendRow TS sC_len sC_one rfl rfl rfl (o1.below (Nat.le_refl _) ((Below.refl _ wr).alloc (Nat.le_refl _) _)) rfl oz (by omega) (by simp only[maxLen];omega) hbp f1.size ?_);intro A5 c5 w5 o5 f5 g5))
   have f6:=f1.trans f5
   clear g5 oz hbp f5 f1 o1
   go_roundw
   case rel=>exact⟨D++[p],s.size+1,s.size+1,n+1,A5,c5,rfl,by rw[List.length_append];simp;omega,by go_num,by go_num,HN.out,o5,f6⟩
   case measure=>first|(simp[intOf];done)|(simp[intOf];omega)
  have hD:D=spl c l:=by
   rcases hcs with h|⟨_,h⟩
   ·have:=h.li;omega
   exact h
  have hz:=HZ.out
  have d0:decide ((i:Int)≤(s.size:Int))=false:=by simp;omega
  have d0':decide (i≤s.size)=false:=by simp;omega
  have d0'':¬i≤s.size:=by omega
  clear hz hcs
  subst hD
  have rd:=o1.rd sC_len
  go_wp2_with fail
  go_ret
  exact⟨A,n,cp,rfl,rd,f1⟩
theorem parseA_spl(l:List UInt8):parseA l=if (spl 46 l).length=4 then parseGo 0 (spl 46 l) else none:=by
 unfold parseA
 rw[split_spl]
theorem parseGo_neg{L:List (List UInt8)}{a i:Nat}(h:i<L.length)(hs:smallS (slAt L i) 255<0):parseGo a (L.drop i)=none:=by
 rw[List.drop_eq_getElem_cons h,←slAt_eq h]
 show (if _ then _ else _)=_
 rw[if_pos hs]
theorem parseGo_pos{L:List (List UInt8)}{a i v:Nat}(h:i<L.length)(hs:smallS (slAt L i) 255=v):parseGo a (L.drop i)=parseGo (a*256+v) (L.drop (i+1)):=by
 rw[List.drop_eq_getElem_cons h,←slAt_eq h]
 show (if _ then _ else _)=_
 rw[if_neg (by omega),hs,Int.toNat_natCast]
set_option maxRecDepth 100000 in
set_option maxHeartbeats 4000000 in
theorem refParse_any(l:List UInt8)(hl:l.length≤1000000)(w:World) :
  Calls Tryz.prog 140 #[.string (strB l)] w fun e w'=>e=.returned (paV (parseA l))∧Below w.heap.size w w':=by
 obtain⟨r,hr⟩:∃r,parseA l=r:=⟨_,rfl⟩
 rw[hr]
 rw[parseA_spl] at hr
 have hne:=spl_ne 46 l
 have hml:=spl_mem_len 46 l
 have hcut:=fun w=>refCut_any l 46 hl w
 have hsl:=spl_len 46 l
 generalize spl 46 l=L at *
 have HR:=Lib.hid hr
 have hpos:0<L.length:=by cases L with
  | nil=>exact absurd rfl hne
  | cons _ _=>simp
 clear hr hne
 go_enter Tryz.func140,Tryz.ntmps140
 go_wp2_with fail
 refine (hcut w).mono ?_
 rintro _ w1 ⟨A,n,cp,rfl,rL,f1⟩
 have HLn:=Lib.hid rL.1
 have hn:=rL.1
 rw[hn] at hpos hsl
 clear hn
 go_wp2_with fail
 go_loopw [5,6,7] (fun s5 s6 _ wr=>∃i a:Nat,i≤n∧s6=.int .i64 (i:Int)∧s5=.int .u32 (a:Int)∧parseGo a (L.drop i)=parseGo 0 L∧(i=0∨n=4)∧a<256^i∧RdR sC 1 wr wr.heap.size A n L∧Below w.heap.size w wr) (fun _ s6 _ _=>n-(intOf s6).toNat)
 case atStart=>exact⟨0,0,Nat.zero_le _,rfl,rfl,rfl,.inl rfl,by simp,rL,f1⟩
 case round =>
  clear rL f1
  obtain⟨i,a,hin,rfl,rfl,hst,hi4,ha,rL,f1⟩:=hrel
  have HST:=Lib.hid hst;clear hst
  by_cases hlt:i<n
  ·have d0:decide ((i:Int)<(n:Int))=true:=by simp;omega
   have b0:(0:Int)≤(i:Int):=by omega
   have b1:(i:Int)<(n:Int):=by omega
   have hiL:i<L.length:=by rw[HLn.out];exact hlt
   obtain⟨b,off,rfl,hbB,hcell⟩:=rL.str hlt
   have hxl:(slAt L i).length≤1000000:=by
    have:=hml (slAt L i) (by rw[slAt_eq hiL];exact List.getElem_mem _)
    omega
   have hnum:=fun w=>refNumber_any (slAt L i) 255 (by omega) hxl w
   have hneg:=parseGo_neg (a:=a) hiL
   have hpp:=fun v=>parseGo_pos (a:=a) (v:=v) hiL
   have hsb:=smallS_le (slAt L i) 255 (by omega)
   rw[HST.out] at hneg
   obtain⟨v,hv⟩:∃v,smallS (slAt L i) 255=v:=⟨_,rfl⟩
   have hnum':∀w,Calls Tryz.prog 141 #[.string (strB (slAt L i)),.int .i64 255] w fun e w'=>e=.returned (.int .i64 v)∧Below w.heap.size w w':=by
    intro w
    have:=hnum w
    rw[show ((255:Nat):Int)=255 from rfl,hv] at this
    exact this
   rw[hv] at hneg hpp hsb
   generalize slAt L i=x at *
   clear hnum hv hxl hiL
   by_cases hv0:v<0
   ·have d1:decide (v<0)=true:=by simp;omega
    have hr2:r=none:=by
     rw[←HR.out]
     split
     ·exact hneg hv0
     rfl
    subst hr2
    clear hneg hpp
    go_wp2_with fail
    refine (hnum' _).mono ?_
    rintro _ w2 ⟨rfl,f2⟩
    have f3:=f1.trans (f2.mono f1.size)
    go_wp2_with fail
    go_ret2
    exact⟨rfl,f3⟩
   have d1:decide (v<0)=false:=by simp;omega
   by_cases hn4:n=4
   ·obtain⟨u,rfl⟩:∃u:Nat,v=u:=⟨v.toNat,by omega⟩
    have hnx:=hpp u rfl
    rw[HST.out] at hnx
    have HNX:=Lib.hid hnx
    have hp4:256^i≤256^3:=Nat.pow_le_pow_right (by omega) (by omega)
    have ha2:a<16777216:=by
     have h3:(256:Nat)^3=16777216:=by decide
     omega
    have ha3:a*256+u<256^(i+1):=by rw[Nat.pow_succ];omega
    have HA3:=Lib.hid ha3
    have d2:((n:Int) !=4)=false:=by rw[hn4];rfl
    have d3:((n:Int)==4)=true:=by rw[hn4];rfl
    have w1':IntKind.u32.wrap (256*(a:Int))=256*(a:Int):=IntWalk.u32_in _ (by omega)
    have w2':IntKind.u32.wrap (u:Int)=(u:Int):=IntWalk.u32_in _ (by omega)
    have w3':IntKind.u32.wrap (256*(a:Int)+(u:Int))=256*(a:Int)+(u:Int):=IntWalk.u32_in _ (by omega)
    have u0:(0:Int)≤(u:Int):=by omega
    have u1:(u:Int)≤255:=by omega
    have H4:=Lib.hid hn4
    clear hneg hpp hnx ha3 hp4 hn4 hi4
    go_wp2_with fail
    refine (hnum' _).mono ?_
    rintro _ w2 ⟨rfl,f2⟩
    have f3:=f1.trans (f2.mono f1.size)
    have r3:=(rL.below f2).more f2.size
    clear rL f1 f2 hnum' hcell
    go_wp2_with fail
    go_roundw
    case rel=>exact⟨i+1,a*256+u,by omega,by go_num,congrArg (Value.int .u32) (by omega),HNX.out.symm,.inr H4.out,HA3.out,r3,f3⟩
    case measure=>simp[intOf];omega
   have d2:((n:Int) !=4)=true:=by rw[bne_iff_ne];omega
   have d3:((n:Int)==4)=false:=by rw[beq_eq_false_iff_ne];omega
   have hr2:r=none:=by
    rw[←HR.out,if_neg (by rw[HLn.out];exact hn4)]
   subst hr2
   clear hneg hpp hn4 hi4
   go_wp2_with fail
   refine (hnum' _).mono ?_
   rintro _ w2 ⟨rfl,f2⟩
   have f3:=f1.trans (f2.mono f1.size)
   go_wp2_with fail
   go_ret2
   exact⟨rfl,f3⟩
  have d0:decide ((i:Int)<(n:Int))=false:=by simp;omega
  obtain rfl:n=i:=by omega
  have hn4:n=4:=by omega
  have hr2:r=some a:=by
   rw[←HR.out,if_pos (by rw[HLn.out];exact hn4),←HST.out,List.drop_of_length_le (by rw[HLn.out];exact Nat.le_refl _)]
   rfl
  subst hr2
  clear hn4 hi4
  go_wp2_with fail
  go_ret2
  exact⟨rfl,f1⟩
set_option maxRecDepth 100000 in
set_option maxHeartbeats 4000000 in
theorem refParseNet_any(l:List UInt8)(hl:l.length≤1000000)(w:World) :
  Calls Tryz.prog 97 #[.string (strB l)] w fun e w'=>e=.returned (pnV (parseNetA l))∧Below w.heap.size w w':=by
 have HI:=Lib.hid (show (Tryz.prog.info? 85).map (·.size)=some 2 by kernel_rfl)
 obtain⟨r,hr⟩:∃r,parseNetA l=r:=⟨_,rfl⟩
 rw[hr]
 have hcut:=fun w=>refCut_any l 47 hl w
 have hml:=spl_mem_len 47 l
 by_cases h2:(spl 47 l).length=2
 ·obtain⟨ca,cb,h2⟩:∃x y,spl 47 l=[x,y]:=by
   rcases hh:spl 47 l with _|⟨x,_|⟨y,_|⟨z,t⟩⟩⟩<;>rw[hh] at h2<;>simp at h2
   exact⟨x,y,rfl⟩
  rw[parseNet_two h2] at hr
  have hla:=hml ca (by rw[h2];simp)
  have hlb:=hml cb (by rw[h2];simp)
  have hpa:=fun w=>refParse_any ca (by omega) w
  have hsm':=fun w=>refNumber_any cb 32 (by omega) (by omega) w
  have hsl:=smallS_le cb 32 (by omega)
  rw[show ((32:Nat):Int)=32 from rfl] at hsm'
  obtain⟨sv,hsv⟩:∃v,smallS cb 32=v:=⟨_,rfl⟩
  rw[hsv] at hr hsl
  have hsm:∀w,Calls Tryz.prog 141 #[.string (strB cb),.int .i64 32] w fun e w'=>e=.returned (.int .i64 sv)∧Below w.heap.size w w':=fun w=>by have:=hsm' w;rw[hsv] at this;exact this
  clear hsv hsm' hml hla hlb
  rcases hp:parseA ca with _|av
  ·have HR:=Lib.hid (show r=none by rw[←hr,hp])
   rw[hp] at hpa
   clear hr hp
   have k0:=Blk.newAt (w:=w) rfl 85 #[.int .u32 0,.int .i64 0]
   go_enter Tryz.func97,Tryz.ntmps97
   go_wp2_with fail
   refine (hcut _).mono ?_
   rintro e w2 ⟨A,n,cp,rfl,rL,f2⟩
   have hLn:=rL.1
   have k2:=k0.below f2 k0.lt
   have f3:Below w.heap.size w w2:=((Below.refl _ w).alloc (Nat.le_refl _) _).trans (f2.mono (by simp))
   have hlt2:w.heap.size<w2.heap.size:=k2.lt
   clear k0 f2
   obtain rfl:n=2:=by rw[←hLn,h2];rfl
   obtain⟨b,off,rfl,hbB,cell0⟩:=rL.str (show 0<2 by omega)
   obtain⟨b',off',hA,_,cell1⟩:=rL.str (show 1<2 by omega)
   injection hA with hA
   injection hA with e1 e2 _
   subst e1 e2
   rw[h2,Nat.add_zero] at cell0
   rw[h2] at cell1
   replace cell0:w2.cell? ⟨b,off,none⟩=some (.string (strB ca)):=cell0
   replace cell1:w2.cell? ⟨b,off+1,none⟩=some (.string (strB cb)):=cell1
   clear rL h2 hLn
   go_wp2_with fail
   refine (hpa w2).mono ?_
   rintro e w4 ⟨rfl,f4⟩
   replace cell1:=(f4.cell (p:=⟨b,off+1,none⟩) hbB).trans cell1
   have k4:=k2.below f4 hlt2
   have f5:=f3.trans (f4.mono f3.size)
   have hlt4:w.heap.size<w4.heap.size:=k4.lt
   clear f3 k2 f4 cell0 hbB
   unfold paV
   go_wp2_with fail
   refine (hsm w4).mono ?_
   rintro e w6 ⟨rfl,f6⟩
   have k6:=k4.below f6 hlt4
   have f7:=f5.trans (f6.mono f5.size)
   have hlt6:w.heap.size<w6.heap.size:=k6.lt
   clear f5 k4 f6 cell1
   have hne:¬w.heap.size=w6.heap.size:=by omega
   have hne2:¬w6.heap.size=w.heap.size:=by omega
   have c0:=k6.cell 0
   have c1:=k6.cell 1
   have g0:=k6.frozen 0
   have g1:=k6.frozen 1
   simp only[List.getElem?_cons_zero,List.getElem?_cons_succ] at c0 c1
   have k9:=((k6.set 0 (.int .u32 0)).set 1 (.int .i64 0)).alloc (.cells #[.int .u32 0,.int .i64 sv] 85)
   have f9:=((f7.setCell (p:=⟨w.heap.size,0,none⟩) (Nat.le_refl _) (.int .u32 0)).setCell (p:=⟨w.heap.size,1,none⟩) (Nat.le_refl _) (.int .i64 0)).alloc (by simpa using f7.size) (.cells #[.int .u32 0,.int .i64 sv] 85)
   clear k6 f7
   go_wp2_with fail
   refine bodyPost_ret (k9.sizedT rfl _ rfl Tryz.underlying85 HI.out) rfl ⟨?_,f9⟩
   rw[HR.out]
   rfl
  have hav:=parseA_lt hp
  rw[hp] at hpa hr
  simp only at hr
  clear hp
  have hmay:=fun w=>refMay_any av sv w ⟨hav,by show _≤sv;omega,by show sv≤_;omega⟩
  unfold ntV at hmay
  cases hm:nMay (av,sv)
  ·rw[hm] at hr hmay
   have HR:=Lib.hid (show r=none by rw[←hr];rfl)
   clear hr
   have k0:=Blk.newAt (w:=w) rfl 85 #[.int .u32 0,.int .i64 0]
   go_enter Tryz.func97,Tryz.ntmps97
   go_wp2_with fail
   refine (hcut _).mono ?_
   rintro e w2 ⟨A,n,cp,rfl,rL,f2⟩
   have hLn:=rL.1
   have k2:=k0.below f2 k0.lt
   have f3:Below w.heap.size w w2:=((Below.refl _ w).alloc (Nat.le_refl _) _).trans (f2.mono (by simp))
   have hlt2:w.heap.size<w2.heap.size:=k2.lt
   clear k0 f2
   obtain rfl:n=2:=by rw[←hLn,h2];rfl
   obtain⟨b,off,rfl,hbB,cell0⟩:=rL.str (show 0<2 by omega)
   obtain⟨b',off',hA,_,cell1⟩:=rL.str (show 1<2 by omega)
   injection hA with hA
   injection hA with e1 e2 _
   subst e1 e2
   rw[h2,Nat.add_zero] at cell0
   rw[h2] at cell1
   replace cell0:w2.cell? ⟨b,off,none⟩=some (.string (strB ca)):=cell0
   replace cell1:w2.cell? ⟨b,off+1,none⟩=some (.string (strB cb)):=cell1
   clear rL h2 hLn
   go_wp2_with fail
   refine (hpa w2).mono ?_
   rintro e w4 ⟨rfl,f4⟩
   replace cell1:=(f4.cell (p:=⟨b,off+1,none⟩) hbB).trans cell1
   have k4:=k2.below f4 hlt2
   have f5:=f3.trans (f4.mono f3.size)
   have hlt4:w.heap.size<w4.heap.size:=k4.lt
   clear f3 k2 f4 cell0 hbB
   unfold paV
   go_wp2_with fail
   refine (hsm w4).mono ?_
   rintro e w6 ⟨rfl,f6⟩
   have k6:=k4.below f6 hlt4
   have f7:=f5.trans (f6.mono f5.size)
   have hlt6:w.heap.size<w6.heap.size:=k6.lt
   clear f5 k4 f6 cell1
   have hne:¬w.heap.size=w6.heap.size:=by omega
   have hne2:¬w6.heap.size=w.heap.size:=by omega
   have k8:=(k6.alloc (.cells #[.int .u32 (av:Int),.int .i64 sv] 85))
   have f8:=f7.alloc f7.size (.cells #[.int .u32 (av:Int),.int .i64 sv] 85)
   have hbx:=box_cells w6 av sv
   go_wp2_with fail
   refine (hmay _).mono ?_
   rintro e w8 ⟨rfl,f8'⟩
   have k10:=k8.below f8'.below k8.lt
   obtain⟨q0,q1⟩:=BxS.below hbx f8'.below
   have f10:=f8.trans (f8'.below.mono f8.size)
   clear k8 f8 f8' k6 f7 hbx
   have c0:=k10.cell 0
   have c1:=k10.cell 1
   have g0:=k10.frozen 0
   have g1:=k10.frozen 1
   simp only[List.getElem?_cons_zero,List.getElem?_cons_succ] at c0 c1
   have k9:=(k10.set 0 (.int .u32 0)).set 1 (.int .i64 0)
   have f9:=(f10.setCell (p:=⟨w.heap.size,0,none⟩) (Nat.le_refl _) (.int .u32 0)).setCell (p:=⟨w.heap.size,1,none⟩) (Nat.le_refl _) (.int .i64 0)
   go_wp2_with fail
   refine bodyPost_ret (k9.sizedT rfl _ rfl Tryz.underlying85 HI.out) rfl ⟨?_,f9⟩
   rw[HR.out]
   rfl
  rw[hm] at hr hmay
  have HR:=Lib.hid (show r=some (av,sv) by rw[←hr];rfl)
  clear hr
  have k0:=Blk.newAt (w:=w) rfl 85 #[.int .u32 0,.int .i64 0]
  go_enter Tryz.func97,Tryz.ntmps97
  go_wp2_with fail
  refine (hcut _).mono ?_
  rintro e w2 ⟨A,n,cp,rfl,rL,f2⟩
  have hLn:=rL.1
  have k2:=k0.below f2 k0.lt
  have f3:Below w.heap.size w w2:=((Below.refl _ w).alloc (Nat.le_refl _) _).trans (f2.mono (by simp))
  have hlt2:w.heap.size<w2.heap.size:=k2.lt
  clear k0 f2
  obtain rfl:n=2:=by rw[←hLn,h2];rfl
  obtain⟨b,off,rfl,hbB,cell0⟩:=rL.str (show 0<2 by omega)
  obtain⟨b',off',hA,_,cell1⟩:=rL.str (show 1<2 by omega)
  injection hA with hA
  injection hA with e1 e2 _
  subst e1 e2
  rw[h2,Nat.add_zero] at cell0
  rw[h2] at cell1
  replace cell0:w2.cell? ⟨b,off,none⟩=some (.string (strB ca)):=cell0
  replace cell1:w2.cell? ⟨b,off+1,none⟩=some (.string (strB cb)):=cell1
  clear rL h2 hLn
  go_wp2_with fail
  refine (hpa w2).mono ?_
  rintro e w4 ⟨rfl,f4⟩
  replace cell1:=(f4.cell (p:=⟨b,off+1,none⟩) hbB).trans cell1
  have k4:=k2.below f4 hlt2
  have f5:=f3.trans (f4.mono f3.size)
  have hlt4:w.heap.size<w4.heap.size:=k4.lt
  clear f3 k2 f4 cell0 hbB
  unfold paV
  go_wp2_with fail
  refine (hsm w4).mono ?_
  rintro e w6 ⟨rfl,f6⟩
  have k6:=k4.below f6 hlt4
  have f7:=f5.trans (f6.mono f5.size)
  have hlt6:w.heap.size<w6.heap.size:=k6.lt
  clear f5 k4 f6 cell1
  have hne:¬w.heap.size=w6.heap.size:=by omega
  have hne2:¬w6.heap.size=w.heap.size:=by omega
  have k8:=(k6.alloc (.cells #[.int .u32 (av:Int),.int .i64 sv] 85))
  have f8:=f7.alloc f7.size (.cells #[.int .u32 (av:Int),.int .i64 sv] 85)
  have hbx:=box_cells w6 av sv
  go_wp2_with fail
  refine (hmay _).mono ?_
  rintro e w8 ⟨rfl,f8'⟩
  have k10:=k8.below f8'.below k8.lt
  obtain⟨q0,q1⟩:=BxS.below hbx f8'.below
  have f10:=f8.trans (f8'.below.mono f8.size)
  clear k8 f8 f8' k6 f7 hbx
  have c0:=k10.cell 0
  have c1:=k10.cell 1
  have g0:=k10.frozen 0
  have g1:=k10.frozen 1
  simp only[List.getElem?_cons_zero,List.getElem?_cons_succ] at c0 c1
  have k9:=(k10.set 0 (.int .u32 (av:Int))).set 1 (.int .i64 sv)
  have f9:=(f10.setCell (p:=⟨w.heap.size,0,none⟩) (Nat.le_refl _) (.int .u32 (av:Int))).setCell (p:=⟨w.heap.size,1,none⟩) (Nat.le_refl _) (.int .i64 sv)
  go_wp2_with fail
  refine bodyPost_ret (k9.sizedT rfl _ rfl Tryz.underlying85 HI.out) rfl ⟨?_,f9⟩
  rw[HR.out]
  rfl
 have HR:=Lib.hid (show r=none by rw[←hr];exact parseNet_not h2)
 clear hr
 have k0:=Blk.newAt (w:=w) rfl 85 #[.int .u32 0,.int .i64 0]
 go_enter Tryz.func97,Tryz.ntmps97
 go_wp2_with fail
 refine (hcut _).mono ?_
 rintro e w2 ⟨A,n,cp,rfl,rL,f2⟩
 have hLn:=rL.1
 have k2:=k0.below f2 k0.lt
 have f3:Below w.heap.size w w2:=((Below.refl _ w).alloc (Nat.le_refl _) _).trans (f2.mono (by simp))
 have hlt2:w.heap.size<w2.heap.size:=k2.lt
 clear k0 f2
 have d2:((n:Int) !=2)=true:=by rw[bne_iff_ne];omega
 have d3:((n:Int)==2)=false:=by rw[beq_eq_false_iff_ne];omega
 clear h2 hLn rL hml
 have c0:=k2.cell 0
 have c1:=k2.cell 1
 have g0:=k2.frozen 0
 have g1:=k2.frozen 1
 simp only[List.getElem?_cons_zero,List.getElem?_cons_succ] at c0 c1
 have k9:=(k2.set 0 (.int .u32 0)).set 1 (.int .i64 0)
 have f9:=(f3.setCell (p:=⟨w.heap.size,0,none⟩) (Nat.le_refl _) (.int .u32 0)).setCell (p:=⟨w.heap.size,1,none⟩) (Nat.le_refl _) (.int .i64 0)
 go_wp2_with fail
 refine bodyPost_ret (k9.sizedT rfl _ rfl Tryz.underlying85 HI.out) rfl ⟨?_,f9⟩
 rw[HR.out]
 rfl
end Go.Proofs.YtpcdmbajfmnoiaaGreatDoor
