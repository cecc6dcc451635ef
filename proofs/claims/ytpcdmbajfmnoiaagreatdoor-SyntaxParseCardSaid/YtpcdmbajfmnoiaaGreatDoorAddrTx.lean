/- Texts of addresses and nets, read back: plain laws. No condition. -/
import Derived.Test.YtpcdmbajfmnoiaaGreatDoorAddrN
import Derived.Test.YtpcdmbajfmnoiaaGreatDoorNetsAll
import Derived.Lib.ItoaNum
import Derived.Lib.AtoiAllCases
namespace Go.Proofs.YtpcdmbajfmnoiaaGreatDoor
set_option linter.unusedVariables false
set_option linter.unusedSimpArgs false
def dig3(n:Nat):List UInt8:=if n<10 then [UInt8.ofNat (48+n)] else if n<100 then [UInt8.ofNat (48+n/10),UInt8.ofNat (48+n%10)] else [UInt8.ofNat (48+n/100),UInt8.ofNat (48+n/10%10),UInt8.ofNat (48+n%10)]
theorem dec_dig3{n:Nat}(h:n<1000):Lib.decDigits n=dig3 n:=by
 unfold dig3
 by_cases h1:n<10
 ·rw[if_pos h1,Lib.decDigits_one h1]
 rw[if_neg h1]
 by_cases h2:n<100
 ·rw[if_pos h2,Lib.decDigits_two h1 h2]
 rw[if_neg h2,Lib.decDigits,dif_neg h1,Lib.decDigits_two (by omega) (by omega),Nat.div_div_eq_div_mul]
 rfl
theorem itoa_dig3{n:Nat}(h:n<1000):Lib.itoa (n:Int)=dig3 n:=by
 unfold Lib.itoa
 rw[if_neg (by omega),Int.toNat_natCast,dec_dig3 h]
def dig3Ok(n:Nat):Bool:=decide (Lib.atoiAll (dig3 n)=.ok (n:Int))&&(dig3 n).all fun b=>decide (48≤b.toNat∧b.toNat≤57)
theorem dig3_ok:∀n:Fin 256,dig3Ok n.val=true:=by decide +kernel
theorem atoi_itoa{n:Nat}(h:n<256):Lib.atoiAll (Lib.itoa (n:Int))=.ok (n:Int):=by
 have:=dig3_ok ⟨n,h⟩
 unfold dig3Ok at this
 rw[Bool.and_eq_true,decide_eq_true_eq] at this
 rw[itoa_dig3 (by omega)]
 exact this.1
theorem itoa_digit{n:Nat}(h:n<256):∀b∈Lib.itoa (n:Int),48≤b.toNat∧b.toNat≤57:=by
 have:=dig3_ok ⟨n,h⟩
 unfold dig3Ok at this
 rw[Bool.and_eq_true,List.all_eq_true] at this
 rw[itoa_dig3 (by omega)]
 exact fun b hb=>of_decide_eq_true (this.2 b hb)
theorem itoa_no{n:Nat}(h:n<256){c:UInt8}(hc:c.toNat<48):c∉Lib.itoa (n:Int):=fun hm=>by
 have:=itoa_digit h c hm
 omega
theorem small_itoa{n:Nat}{most:Int}(h:n<256)(hm:(n:Int)≤most):smallS (Lib.itoa (n:Int)) most=n :=
 smallS_ok (atoi_itoa h) (by omega) hm rfl
theorem small_inv{l:List UInt8}{most:Int}(h:¬smallS l most<0):∃n:Nat,smallS l most=n∧(n:Int)≤most∧l=Lib.itoa (n:Int):=by
 unfold smallS at *
 cases ha:Lib.atoiAll l with
 | ok v =>
  rw[ha] at h
  simp only at h ⊢
  split at h
  ·rename_i g
   obtain⟨g0,g1,g2⟩:=g
   rw[if_pos ⟨g0,g1,g2⟩]
   exact⟨v.toNat,by omega,by omega,by rw[show ((v.toNat:Nat):Int)=v by omega];exact g2.symm⟩
  omega
 | _=>rw[ha] at h;simp only at h;omega
def spl(c:UInt8):List UInt8→List (List UInt8)
 | []=>[[]]
 | b::l=>if b=c then []::spl c l else (b::(spl c l).headD [])::(spl c l).tail
theorem spl_ne(c:UInt8)(l:List UInt8):spl c l≠[]:=by
 cases l with
 | nil=>simp[spl]
 | cons b l=>unfold spl;split<;>simp
theorem spl_cons(c:UInt8)(l:List UInt8):spl c l=(spl c l).headD []::(spl c l).tail:=by
 have:=spl_ne c l
 cases h:spl c l with
 | nil=>exact absurd h this
 | cons x r=>rfl
theorem idx_eq(c:UInt8)(l:List UInt8):Lib.index (c::l) [c]=0:=by
 rw[Lib.index];simp[List.isPrefixOf]
theorem idx_ne{b c:UInt8}(h:b≠c)(l:List UInt8):Lib.index (b::l) [c]=if Lib.index l [c]== -1 then -1 else Lib.index l [c]+1:=by
 have hp:([c]:List UInt8).isPrefixOf (b::l)=false:=by simp[List.isPrefixOf,Ne.symm h]
 rw[Lib.index,hp];simp
theorem splK_spl(c:UInt8):∀(l:List UInt8)(k:Nat),Lib.count l [c]=k→Lib.splitK [c] 0 k l=spl c l
 | [],k,h=>by
  have:Lib.count [] [c]=0:=Lib.count_miss (by simp[Lib.index])
  rw[this] at h
  subst h
  rfl
 | b::l,k,h=>by
  by_cases hb:b=c
  ·subst hb
   rw[Lib.count_cons_eq] at h
   obtain⟨k,rfl⟩:∃j,k=j+1:=⟨k-1,by omega⟩
   have ih:=splK_spl b l k (by omega)
   unfold Lib.splitK
   rw[idx_eq,if_neg (by decide)]
   simp only[Int.toNat_zero,Nat.zero_add,List.take_zero,List.length_cons,List.length_nil,List.drop_succ_cons,List.drop_zero]
   rw[ih,spl,if_pos rfl]
  rw[Lib.count_cons_ne _ _ _ hb] at h
  have ih:=splK_spl c l k h
  rw[spl,if_neg hb,←ih]
  by_cases hi:Lib.index l [c]= -1
  ·have h0:k=0:=by rw[←h];exact Lib.count_miss hi
   subst h0
   rfl
  have hg:=Lib.index_ge l [c]
  obtain⟨j,hj⟩:∃j:Nat,Lib.index l [c]=j:=⟨(Lib.index l [c]).toNat,by omega⟩
  have hk:=Lib.count_hit (s:=l) (sub:=[c]) (by simp) hj
  obtain⟨k,rfl⟩:∃m,k=m+1:=⟨k-1,by omega⟩
  unfold Lib.splitK
  have e1:(((j:Int)== -1)=true)=False:=by rw[beq_iff_eq];exact eq_false (by omega)
  have e2:((((j:Int)+1)== -1)=true)=False:=by rw[beq_iff_eq];exact eq_false (by omega)
  rw[idx_ne hb,hj]
  simp only[e1,e2,if_false]
  rw[show ((j:Int)+1).toNat=j+1 by omega,Int.toNat_natCast]
  simp only[List.length_cons,List.length_nil,Nat.add_zero,Nat.zero_add,List.take_succ_cons,List.drop_succ_cons,List.headD_cons,List.tail_cons]
theorem split_spl(c:UInt8)(l:List UInt8):Lib.split l [c]=spl c l:=splK_spl c l _ rfl
theorem spl_no{c:UInt8}:∀{x:List UInt8},c∉x→spl c x=[x]
 | [],_=>rfl
 | b::x,h=>by
  have hb:b≠c:=fun e=>h (by subst e;simp)
  have ih:=spl_no (c:=c) (x:=x) fun e=>h (List.mem_cons_of_mem _ e)
  rw[spl,if_neg hb,ih]
  rfl
theorem spl_app{c:UInt8}(r:List UInt8):∀{x:List UInt8},c∉x→spl c (x++c::r)=x::spl c r
 | [],_=>by
  show spl c (c::r)=_
  rw[spl,if_pos rfl]
 | b::x,h=>by
  have hb:b≠c:=fun e=>h (by subst e;simp)
  have ih:=spl_app r (c:=c) (x:=x) fun e=>h (List.mem_cons_of_mem _ e)
  show spl c (b::(x++c::r))=_
  rw[spl,if_neg hb,ih]
  rfl
theorem join_cons2(x y:List UInt8)(r:List (List UInt8))(s:List UInt8):Lib.join (x::y::r) s=x++s++Lib.join (y::r) s:=by
 unfold Lib.join List.intercalate
 simp[List.intersperse]
theorem join_one(x s:List UInt8):Lib.join [x] s=x:=by
 unfold Lib.join List.intercalate
 simp[List.intersperse]
theorem join_spl(c:UInt8):∀l:List UInt8,Lib.join (spl c l) [c]=l
 | []=>by rw[spl,join_one]
 | b::l=>by
  have ih:=join_spl c l
  have e:=spl_cons c l
  rw[spl]
  split
  ·rename_i h
   subst h
   rw[e,join_cons2,←e,ih]
   rfl
  rw[e] at ih
  rcases ht:(spl c l).tail with _|⟨y,r⟩
  ·rw[ht,join_one] at ih
   rw[join_one,ih]
  rw[ht,join_cons2] at ih
  rw[join_cons2,List.cons_append,List.cons_append,ih]
theorem join4(x y z u s:List UInt8):Lib.join [x,y,z,u] s=x++(s++(y++(s++(z++(s++u))))):=by
 rw[join_cons2,join_cons2,join_cons2,join_one]
 simp
theorem oct_of{x y z u:Nat}(hx:x<256)(hy:y<256)(hz:z<256)(hu:u<256):oct (((x*256+y)*256+z)*256+u) 0=x∧oct (((x*256+y)*256+z)*256+u) 1=y∧oct (((x*256+y)*256+z)*256+u) 2=z∧oct (((x*256+y)*256+z)*256+u) 3=u:=by
 unfold oct
 simp only[Nat.mul_zero,Nat.sub_zero,Nat.mul_one,Nat.reduceMul,Nat.reduceSub,Nat.reducePow,Nat.div_one]
 omega
theorem parse_inv{l:List UInt8}{a:Nat}(h:parseA l=some a):printA a=l∧a<4294967296:=by
 unfold parseA at h
 rw[split_spl] at h
 split at h
 ·rename_i h4
  have hj:=join_spl 46 l
  rcases hs:spl 46 l with _|⟨x,_|⟨y,_|⟨z,_|⟨u,_|⟨v,r⟩⟩⟩⟩⟩<;>rw[hs] at h4<;>simp at h4
  rw[hs] at h hj
  simp only[parseGo] at h
  split at h
  ·cases h
  split at h
  ·cases h
  split at h
  ·cases h
  split at h
  ·cases h
  rename_i g1 g2 g3 g4
  obtain⟨n1,e1,b1,rfl⟩:=small_inv g1
  obtain⟨n2,e2,b2,rfl⟩:=small_inv g2
  obtain⟨n3,e3,b3,rfl⟩:=small_inv g3
  obtain⟨n4,e4,b4,rfl⟩:=small_inv g4
  rw[e1,e2,e3,e4] at h
  simp only[Int.toNat_natCast,Nat.zero_mul,Nat.zero_add,Option.some.injEq] at h
  obtain⟨o1,o2,o3,o4⟩:=oct_of (x:=n1) (y:=n2) (z:=n3) (u:=n4) (by omega) (by omega) (by omega) (by omega)
  rw[h] at o1 o2 o3 o4
  refine⟨?_,by omega⟩
  unfold printA octs
  rw[o1,o2,o3,o4]
  exact hj
 cases h
theorem idx_has{c:UInt8}:∀{l:List UInt8},0≤Lib.index l [c]→l=l.take (Lib.index l [c]).toNat++c::l.drop ((Lib.index l [c]).toNat+1)
 | [],h=>by simp[Lib.index] at h
 | b::l,h=>by
  by_cases hb:b=c
  ·subst hb
   rw[idx_eq]
   simp
  rw[idx_ne hb] at h ⊢
  split at h
  ·omega
  rename_i g
  rw[beq_iff_eq] at g
  have hg:=Lib.index_ge l [c]
  rw[if_neg (by rw[beq_iff_eq];exact g)]
  have ih:=idx_has (c:=c) (l:=l) (by omega)
  rw[show (Lib.index l [c]+1).toNat=(Lib.index l [c]).toNat+1 by omega,List.take_succ_cons,List.drop_succ_cons,List.cons_append,←ih]
theorem cut_of{c:UInt8}{l:List UInt8}(h:(Lib.cut l [c]).2.2=true):l=(Lib.cut l [c]).1++c::(Lib.cut l [c]).2.1:=by
 unfold Lib.cut at *
 split
 ·rename_i g
  exact idx_has g
 rename_i g
 rw[if_neg g] at h
 cases h
def printNetA(c:Nt):List UInt8:=if nMay c=true then printA c.1++47::Lib.itoa c.2 else []
theorem print_no47(a:Nat):(47:UInt8)∉printA a:=by
 have h:∀k,(47:UInt8)∉Lib.itoa ((oct a k:Nat):Int):=fun k=>itoa_no (Nat.mod_lt _ (by omega)) (by decide)
 unfold printA octs
 rw[join4]
 simp[h 0,h 1,h 2,h 3]
theorem parseNet_inv{l:List UInt8}{c:Nt}(h:parseNetA l=some c):printNetA c=l∧nMay c=true∧c.1<4294967296:=by
 unfold parseNetA at h
 split at h
 ·rename_i hb
  have hl:=cut_of hb
  cases hp:parseA (Lib.cut l [47]).1 with
  | none=>rw[hp] at h;cases h
  | some a =>
   rw[hp] at h
   simp only at h
   split at h
   ·rename_i hm
    injection h with h
    subst h
    obtain⟨e1,e2⟩:=parse_inv hp
    have hm':=(nMay_iff _).1 hm
    simp only at hm'
    obtain⟨n,e3,e4,e5⟩:=small_inv (l:=(Lib.cut l [47]).2.1) (most:=32) (by omega)
    refine⟨?_,hm,e2⟩
    unfold printNetA
    rw[if_pos hm]
    simp only
    rw[e1,e3,←e5,←hl]
   cases h
 cases h
end Go.Proofs.YtpcdmbajfmnoiaaGreatDoor
