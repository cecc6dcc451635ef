/- Nets as plain things: what covers what; merging, step by step; the one form of what is merged. No condition. The document's merging, plainly: the nets within one that have what a row has in it. No condition. Masks of addresses, as numbers. No condition. Plain laws of nets for the statements that do not ask the document's answer. No condition. The document's nets, round by round, as plain things. No condition. -/
import Derived.KernelRfl
import Derived.WalkKit
namespace Go.Proofs.YtpcdmbajfmnoiaaGreatDoor
set_option linter.unusedVariables false
set_option linter.unusedSimpArgs false
abbrev Nt:=Nat×Int
def nk(c:Nt):Nat:=(32-c.2).toNat
def nsz(c:Nt):Nat:=2^nk c
def nhi(c:Nt):Nat:=c.1+nsz c
def nMay(c:Nt):Bool:=decide (0≤c.2)&&decide (c.2≤32)&&decide (c.1%nsz c=0)
theorem nMay_iff(c:Nt):nMay c=true↔0≤c.2∧c.2≤32∧c.1%nsz c=0:=by
 simp[nMay,and_assoc]
theorem nsz_pos(c:Nt):0<nsz c:=Nat.pow_pos (by omega)
theorem nhi_gt(c:Nt):c.1<nhi c:=by have:=nsz_pos c;unfold nhi;omega
def nPar(c:Nt):Nt:=(c.1/(2*nsz c)*(2*nsz c),c.2-1)
def nSib(a b:Nt):Bool:=decide (a.2=b.2)&&(decide (0<a.2)&&decide (nPar a=nPar b))
def nHas(l:List Nt)(x:Nat):Prop:=∃c∈l,nMay c=true∧c.1≤x∧x<nhi c
structure Nice(l:List Nt):Prop where
 may:∀c∈l,nMay c=true
 apart:l.Pairwise fun c d=>nhi c≤d.1
 sib:∀c∈l,∀d∈l,c.1<d.1→nSib c d=false
theorem Nice.rise{A:List Nt}(h:Nice A):A.Pairwise (fun c d=>c.1<d.1) :=
 h.apart.imp fun {c d} hcd=>Nat.lt_of_lt_of_le (nhi_gt c) hcd
def lexLe(c d:Nt):Prop:=c.1<d.1∨(c.1=d.1∧c.2≤d.2)
structure Rowed(l:List Nt):Prop where
 may:∀c∈l,nMay c=true
 rise:l.Pairwise lexLe
theorem Rowed.tail{a:Nt}{l:List Nt}(h:Rowed (a::l)):Rowed l:=⟨fun c hc=>h.may c (List.mem_cons_of_mem _ hc),(List.pairwise_cons.1 h.rise).2⟩
def nLow(c:Nt):Nt:=(c.1,c.2+1)
def nHigh(c:Nt):Nt:=(nhi (nLow c),c.2+1)
structure Halved(c:Nt)(k:Nat):Prop where
 mlow:nMay (nLow c)=true
 mhigh:nMay (nHigh c)=true
 klow:nk (nLow c)=k
 khigh:nk (nHigh c)=k
 lo:(nLow c).1=c.1
 mid:(nHigh c).1=nhi (nLow c)
 hlow:nhi (nLow c)=c.1+2^k
 hhigh:nhi (nHigh c)=nhi c
 gap:nhi c=c.1+2^k+2^k
structure Within(l R:List Nt)(c:Nt):Prop where
 nice:Nice R
 ins:∀r∈R,c.1≤r.1∧nhi r≤nhi c
 has:∀x,nHas R x↔nHas l x∧c.1≤x∧x<nhi c
def nMask(b:Int):Nat:=4294967296-2^(32-min (max b 0) 32).toNat
theorem nMask_lt(b:Int):nMask b<4294967296:=by
 have:0<2^(32-min (max b 0) 32).toNat:=Nat.pow_pos (by omega)
 unfold nMask
 omega
theorem nMask_k(c:Nt)(h0:0≤c.2)(h1:c.2≤32):nMask c.2=2^32-nsz c∧nk c≤32:=by
 have e:(32-min (max c.2 0) 32).toNat=nk c:=by unfold nk;omega
 unfold nMask nsz
 rw[e]
 exact⟨rfl,by unfold nk;omega⟩
theorem or_low(a k y:Nat)(ha:a%2^k=0)(hy:y<2^k):a ||| y=a+y:=by
 obtain⟨u,rfl⟩:=Nat.dvd_of_mod_eq_zero ha
 exact (Nat.two_pow_add_eq_or_of_lt hy u).symm
theorem u32_and_n(x y:Nat)(hx:x<4294967296)(hy:y<4294967296):bits .and .u32 (x:Int) (y:Int)=((x &&& y:Nat):Int):=u32_and_nat x y hx hy
theorem u32_or_n(x y:Nat)(hx:x<4294967296)(hy:y<4294967296):bits .or .u32 (x:Int) (y:Int)=((x ||| y:Nat):Int):=u32_or_nat x y hx hy
theorem and_not_low(c:Nt)(x:Nat)(hx:x<4294967296)(h0:0≤c.2)(h1:c.2≤32):bits .andNot .u32 (x:Int) (nMask c.2:Int)=((x%nsz c:Nat):Int):=by
 obtain⟨e,hk⟩:=nMask_k c h0 h1
 have hlt:=nMask_lt c.2
 have hp:nsz c≤2^32:=Nat.pow_le_pow_right (by omega) hk
 have hp0:=nsz_pos c
 show IntKind.u32.wrap ((BitVec.ofInt 32 (x:Int) &&& ~~~(BitVec.ofInt 32 (nMask c.2:Int))).toNat:Int)=_
 have h:(BitVec.ofInt 32 (x:Int) &&& ~~~(BitVec.ofInt 32 (nMask c.2:Int))).toNat=x%nsz c:=by
  rw[BitVec.toNat_and,BitVec.toNat_not,BitVec.ofInt_natCast,BitVec.ofInt_natCast,BitVec.toNat_ofNat,BitVec.toNat_ofNat,Nat.mod_eq_of_lt (by omega),Nat.mod_eq_of_lt (by omega),e,show 2^32-1-(2^32-nsz c)=nsz c-1 from by omega]
  exact Nat.and_two_pow_sub_one_eq_mod x (nk c)
 rw[h,IntKind.wrap_u32']
 have:x%nsz c≤x:=Nat.mod_le _ _
 omega
def bitN(a i:Nat):Bool:=decide (a/2^(31-i)%2=1)
def lowAt(c:Nt)(i:Nat):Prop:=c.1%2^(nk c)<2^(32-i)
theorem lowAt_start(c:Nt)(i:Nat)(h:nk c=32-i):lowAt c i:=by
 unfold lowAt
 rw[h]
 exact Nat.mod_lt _ (Nat.pow_pos (by omega))
theorem low_bit{c:Nt}{i:Nat}(hk:nk c≤32)(h:32-i≤nk c)(hi:i<32):c.1%2^(nk c)/2^(31-i)%2=c.1/2^(31-i)%2:=by
 obtain⟨d,hd⟩:∃d,nk c=(31-i)+1+d:=⟨nk c-(31-i)-1,by omega⟩
 have:=Nat.testBit_mod_two_pow c.1 (nk c) (31-i)
 rw[Nat.testBit_eq_decide_div_mod_eq,Nat.testBit_eq_decide_div_mod_eq,decide_eq_true (by omega:31-i<nk c),Bool.true_and,decide_eq_decide] at this
 omega
theorem lowAt_step{c:Nt}{i:Nat}(hk:nk c≤32)(h:32-i≤nk c)(hi:i<32)(hl:lowAt c i)(hb:bitN c.1 i=false):lowAt c (i+1):=by
 unfold lowAt at *
 have e:=low_bit hk h hi
 unfold bitN at hb
 rw[decide_eq_false_iff_not] at hb
 have e2:2^(32-i)=2^(31-i)*2:=by rw[←Nat.pow_succ];congr 1;omega
 rw[e2] at hl
 rw[show 32-(i+1)=31-i by omega]
 have h3:c.1%2^(nk c)/2^(31-i)<2:=Nat.div_lt_of_lt_mul hl
 have h4:c.1%2^(nk c)/2^(31-i)=0:=by
  generalize c.1%2^(nk c)/2^(31-i)=u at *
  generalize c.1/2^(31-i)=v at *
  omega
 rcases Nat.div_eq_zero_iff.1 h4 with g|g
 ·have:=Nat.pow_pos (n:=31-i) (show 0<2 by omega);omega
 exact g
theorem lowAt_bit{c:Nt}{i:Nat}(hk:nk c≤32)(h:32-i≤nk c)(hi:i<32)(hb:bitN c.1 i=true):nMay c=false:=by
 have e:=low_bit hk h hi
 unfold bitN at hb
 rw[decide_eq_true_eq] at hb
 rw[←Bool.not_eq_true,nMay_iff]
 rintro ⟨_,_,h0⟩
 unfold nsz at h0
 rw[h0,Nat.zero_div] at e
 omega
theorem lowAt_end{c:Nt}(h0:0≤c.2)(h1:c.2≤32)(hl:lowAt c 32):nMay c=true:=by
 rw[nMay_iff]
 refine⟨h0,h1,?_⟩
 unfold lowAt at hl
 unfold nsz
 omega
end Go.Proofs.YtpcdmbajfmnoiaaGreatDoor
