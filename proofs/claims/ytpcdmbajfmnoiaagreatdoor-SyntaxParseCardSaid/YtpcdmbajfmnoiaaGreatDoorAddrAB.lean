/- What a net has. Condition: an address of 32 bits, bits that fit an int. How two nets stand; what covers what; ends, halves, the net above. Condition: addresses of 32 bits, bits that fit an int. The document's masks, and which nets may be. Condition: an address of 32 bits, bits that fit an int. -/
import Derived.Test.YtpcdmbajfmnoiaaGreatDoorAddrM
import Derived.Test.YtpcdmbajfmnoiaaGreatDoorRowRG
import Derived.StillTailTactics
import Derived.Test.YtpcdmbajfmnoiaaGreatDoorNetsAll
import Derived.IntWalk
namespace Go.Proofs.YtpcdmbajfmnoiaaGreatDoor
set_option linter.unusedVariables false
set_option linter.unusedSimpArgs false
open Go.RowKit Go.Sort
theorem BxS.both{g h a c:Nat}{b d:Int}{u v:World}(k:BxS g a b u∧BxS h c d u)(hb:Below u.heap.size u v):BxS g a b v∧BxS h c d v:=⟨k.1.below hb,k.2.below hb⟩
set_option maxRecDepth 100000 in
set_option maxHeartbeats 1000000 in
theorem refBit_any(a i:Nat)(w:World)(ha:a<4294967296)(hi:i<32) :
  Calls Tryz.prog 128 #[.int .u32 (a:Int),.int .i64 (i:Int)] w fun e w'=>e=.returned (.bool (bitN a i))∧w=w':=by
 go_enter Tryz.func128,Tryz.ntmps128
 go_wp2_with fail
 go_loop [0,5] (fun x k=>∃j:Nat,i≤j∧j≤31∧k=.int .i64 j∧x=.int .u32 ((a/2^(j-i):Nat):Int)) (fun _ k=>31-(intOf k).toNat)
 case atStart=>exact⟨i,Nat.le_refl _,by omega,rfl,by rw[Nat.sub_self,Nat.pow_zero,Nat.div_one]⟩
 case round =>
  obtain⟨j,hij,hj,rfl,rfl⟩:=hrel
  have hle:a/2^(j-i)<4294967296:=Nat.lt_of_le_of_lt (Nat.div_le_self _ _) ha
  by_cases hlt:j<31
  ·have d1:decide ((j:Int)<31)=true:=by simp;omega
   have hs:a/2^(j+1-i)=a/2^(j-i)/2:=by
    rw[Nat.div_div_eq_div_mul,←Nat.pow_succ];congr 2;omega
   have HS:=Lib.hid hs;clear hs
   have b0:(0:Int)≤((a/2^(j-i):Nat):Int):=Int.natCast_nonneg _
   obtain⟨z,hz⟩:∃z,a/2^(j-i)=z:=⟨_,rfl⟩
   rw[hz] at hle b0 ⊢
   have HZ:=Lib.hid hz;clear hz
   have w1:IntKind.u32.wrap ((z:Int)/2)=(z:Int)/2:=IntWalk.u32_in _ (by omega)
   go_wp2_with fail
   go_round
   case rel=>exact⟨j+1,by omega,by omega,by go_num,by rw[HS.out,HZ.out];first|rfl|(push_cast;rfl)|go_num⟩
   case measure=>simp[intOf];omega
  have d1:decide ((j:Int)<31)=false:=by simp;omega
  obtain rfl:j=31:=by omega
  obtain⟨z,hz⟩:∃z,a/2^(31-i)=z:=⟨_,rfl⟩
  rw[hz] at hle ⊢
  have hb:bitN a i=(((z:Int)%2)==1):=by
   unfold bitN
   rw[hz,Bool.eq_iff_iff,decide_eq_true_eq,beq_iff_eq]
   omega
  have HB:=Lib.hid hb;clear hb hz
  have b0:(0:Int)≤(z:Int):=by omega
  have b1:(z:Int)≤4294967295:=by omega
  go_wp2_with fail
  go_ret
  exact⟨by rw[HB.out];rfl,rfl⟩
set_option maxRecDepth 100000 in
set_option maxHeartbeats 2000000 in
theorem refMay_any(a:Nat)(b:Int)(w:World)(hc:okN (a,b)) :
  Calls Tryz.prog 82 #[ntV a b] w fun e w'=>e=.returned (.bool (nMay (a,b)))∧Grn w w':=by
 obtain⟨c0,c1,c2⟩:=hc
 simp only at c0 c1 c2
 obtain⟨r,hr⟩:∃r,nMay (a,b)=r:=⟨_,rfl⟩
 rw[hr]
 have HR:=Lib.hid hr;clear hr
 unfold ntV
 go_enter Tryz.func82,Tryz.ntmps82
 go_upto_region 1 with fail
 refine abs (fun w1=>BxS w.heap.size a b w1∧Grn w w1) ⟨box_cells w a b,(Grn.refl w).alloc _⟩ ?_
 rintro w1 ⟨⟨e0,e1⟩,f1⟩
 by_cases h0:b<0
 ·have d0:decide (b<0)=true:=by simp;omega
  have:r=false:=by rw[←HR.out,←Bool.not_eq_true,nMay_iff];simp only;omega
  subst this
  go_wp2_with fail
  go_ret
  exact⟨rfl,f1⟩
 have d0:decide (b<0)=false:=by simp;omega
 by_cases h1:32<b
 ·have d1:decide (32<b)=true:=by simp;omega
  have:r=false:=by rw[←HR.out,←Bool.not_eq_true,nMay_iff];simp only;omega
  subst this
  go_wp2_with fail
  go_ret
  exact⟨rfl,f1⟩
 have d1:decide (32<b)=false:=by simp;omega
 obtain⟨n,rfl⟩:∃n:Nat,b=n:=⟨b.toNat,by omega⟩
 have hnk:nk (a,(n:Int))=32-n:=by show (32-(n:Int)).toNat=_;omega
 have hst:=lowAt_start (a,(n:Int)) n hnk
 have HK:=Lib.hid hnk;clear hnk
 go_wp2_with fail
 go_loop [3] (fun i=>∃k:Nat,n≤k∧k≤32∧i=.int .i64 k∧lowAt (a,(n:Int)) k) (fun i=>32-(intOf i).toNat)
 case atStart=>exact⟨n,Nat.le_refl _,by omega,rfl,hst⟩
 case round =>
  clear hst
  obtain⟨k,hnk,hk,rfl,hlow⟩:=hrel
  have HLOW:=Lib.hid hlow;clear hlow
  by_cases hlt:k<32
  ·have d2:decide ((k:Int)<32)=true:=by simp;omega
   have hbit:=fun w=>refBit_any a k w c0 hlt
   rcases hb:bitN a k with _|_
   ·rw[hb] at hbit
    have HB:=Lib.hid hb;clear hb
    go_wp2_with fail
    refine (hbit _).mono ?_
    rintro e w2 ⟨rfl,rfl⟩
    go_wp2_with fail
    go_round
    case rel=>exact⟨k+1,by omega,by omega,by go_num,lowAt_step (by rw[HK.out];omega) (by rw[HK.out];omega) hlt HLOW.out HB.out⟩
    case measure=>simp[intOf];omega
   have:r=false:=by rw[←HR.out];exact lowAt_bit (i:=k) (by rw[HK.out];omega) (by rw[HK.out];omega) hlt hb
   subst this
   rw[hb] at hbit
   clear hb
   go_wp2_with fail
   refine (hbit _).mono ?_
   rintro e w2 ⟨rfl,rfl⟩
   go_wp2_with fail
   go_ret
   exact⟨rfl,f1⟩
  have d2:decide ((k:Int)<32)=false:=by simp;omega
  obtain rfl:k=32:=by omega
  have:r=true:=by rw[←HR.out];exact lowAt_end (c:=(a,(n:Int))) (by show (0:Int)≤n;omega) (by show (n:Int)≤32;omega) HLOW.out
  subst this
  go_wp2_with fail
  go_ret
  exact⟨rfl,f1⟩
end Go.Proofs.YtpcdmbajfmnoiaaGreatDoor
