/- addr.Parse, ParseNet, PrintNet. Conditions: texts of a million bytes at most; the library's variables hold what they should. -/
import Derived.Test.YtpcdmbajfmnoiaaGreatDoorAddrP
import Derived.Lib.SplitLaws
namespace Go.Proofs.YtpcdmbajfmnoiaaGreatDoor
set_option linter.unusedVariables false
set_option linter.unusedSimpArgs false
open Go.RowKit Go.Sort
theorem split_any(l:List UInt8)(w:World)(hW:LdW w)(hl:l.length≤1000000) :
  Calls Tryz.prog 53 #[.string (strB l),.string ⟨#[46]⟩] w fun e w'=>∃A n c,e=.returned (.slice A n c)∧RdR sC 1 w' w'.heap.size A n (Lib.split l [46])∧n≤l.length+1∧Below w.heap.size w w':=by
 obtain⟨m,hm⟩:=hW.max
 refine (strings_Split (strB l) ⟨#[46]⟩ m w (by rw[strB_size];omega) hm (by decide)).mono ?_
 rintro e w' ⟨rfl,rfl⟩
 have hd:(Lib.splitB ⟨#[46]⟩ 0 (Lib.countB (strB l) ⟨#[46]⟩) (strB l)).map (·.data.toList)=Lib.split l [46]:=by
  rw[Lib.splitB_data]
  show Lib.splitK [46] 0 (Lib.count (strB l).data.toList [46]) (strB l).data.toList=_
  simp only[strB]
  rfl
 have hlen:=Lib.splitB_all ⟨#[46]⟩ (by decide) 0 _ (strB l) rfl
 have hle:=Lib.countB_le ⟨#[46]⟩ (by decide) _ (strB l) (Nat.le_refl _)
 rw[strB_size] at hle
 generalize Lib.splitB ⟨#[46]⟩ 0 (Lib.countB (strB l) ⟨#[46]⟩) (strB l)=S at *
 generalize Lib.countB (strB l) ⟨#[46]⟩=q at *
 refine⟨_,_,_,rfl,⟨by rw[←hd,List.length_map,hlen],fun _=>⟨w.heap.size,0,rfl,by simp,fun j hj i v hv=>?_⟩⟩,by omega,(Below.refl _ w).alloc (Nat.le_refl _) _⟩
 have k:=Blk.of_new w 9 (S.map Value.string)
 have hi:i=0:=by
  have:=(List.getElem?_eq_some_iff.1 hv).1
  simp only[sC,List.length_cons,List.length_nil] at this
  omega
 subst hi
 have hv2:v=.string (strB (Lib.split l [46])[j]):=by simpa [sC] using hv.symm
 subst hv2
 rw[show 0+j*1+0=j by omega,k.cell,List.getElem?_map]
 have hjS:j<S.length:=by rw[←hd,List.length_map] at hj;exact hj
 rw[List.getElem?_eq_getElem hjS,Option.map_some]
 have e:(Lib.split l [46])[j]=S[j].data.toList:=by simp only[←hd,List.getElem_map]
 rw[e]
 simp[strB]
def parseGo(a:Nat):List (List UInt8)→Option Nat
 | []=>some a
 | x::r=>if smallS x 255<0 then none else parseGo (a*256+(smallS x 255).toNat) r
def parseA(l:List UInt8):Option Nat:=if (Lib.split l [46]).length=4 then parseGo 0 (Lib.split l [46]) else none
def paV:Option Nat→Value
 | some a=>.tuple #[.int .u32 (a:Int),.int .i64 0]
 | none=>.tuple #[.int .u32 0,.int .i64 2]
theorem parseGo_lt:∀(L:List (List UInt8)) (a b:Nat) (q:Nat),parseGo a L=some b→a<256^q→b<256^(q+L.length)
 | [],a,b,q,h,ha=>by
  simp only[parseGo,Option.some.injEq] at h
  subst h
  simpa using ha
 | x::r,a,b,q,h,ha=>by
  rw[parseGo] at h
  split at h
  ·cases h
  rename_i hn
  have:=smallS_le x 255 (by omega)
  have:=parseGo_lt r _ b (q+1) h (by rw[Nat.pow_succ];omega)
  rwa [List.length_cons,show q+(r.length+1)=q+1+r.length by omega]
theorem parseA_lt{l:List UInt8}{a:Nat}(h:parseA l=some a):a<4294967296:=by
 unfold parseA at h
 split at h
 ·rename_i h4
  have:=parseGo_lt _ 0 a 0 h (by decide)
  rw[h4] at this
  exact this
 cases h
theorem split_len(l:List UInt8):∀x∈Lib.split l [46],x.length≤l.length:=by
 unfold Lib.split
 generalize Lib.count l [46]=k
 induction k generalizing l with
 | zero=>intro x hx;simp[Lib.splitK] at hx;subst hx;exact Nat.le_refl _
 | succ k ih =>
  intro x hx
  rw[Lib.splitK] at hx
  split at hx
  ·simp at hx;subst hx;exact Nat.le_refl _
  rcases List.mem_cons.1 hx with rfl|hx
  ·rw[List.length_take];omega
  have:=ih _ x hx
  rw[List.length_drop] at this
  omega
theorem shl_or(a n:Nat)(ha:a<16777216)(hn:n<256):bits .or .u32 ((a:Int)*256) (n:Int)=((a*256+n:Nat):Int):=by
 have:=u32_or_n (a*256) n (by omega) (by omega)
 rw[show ((a*256:Nat):Int)=(a:Int)*256 by omega] at this
 rw[this,or_low (a*256) 8 n (by omega) hn]
def slAt(L:List (List UInt8))(k:Nat):List UInt8:=L.getD k []
theorem slAt_eq{L:List (List UInt8)}{k:Nat}(h:k<L.length):slAt L k=L[k]:=by simp[slAt,List.getD,h]
theorem RdR.str{w:World}{B n k:Nat}{A:Option Addr}{L:List (List UInt8)}(h:RdR sC 1 w B A n L)(hk:k<n):∃b off,A=some ⟨b,off,none⟩∧b<B∧w.cell? ⟨b,off+k,none⟩=some (.string (strB (slAt L k))):=by
 obtain⟨hl,h⟩:=h
 obtain⟨b,off,h1,h2,h3⟩:=h (by omega)
 rw[slAt_eq (by omega)]
 have:=h3 k (by omega) 0 _ rfl
 rw[Nat.mul_one,Nat.add_zero] at this
 exact⟨b,off,h1,h2,this⟩
set_option maxRecDepth 100000 in
set_option maxHeartbeats 4000000 in
theorem parse_any(l:List UInt8)(hl:l.length≤1000000)(w:World)(hW:LdW w) :
  Calls Tryz.prog 174 #[.string (strB l)] w fun e w'=>e=.returned (paV (parseA l))∧Below w.heap.size w w':=by
 have hlt:=hW.lt
 obtain⟨r,hr⟩:∃r,parseA l=r:=⟨_,rfl⟩
 rw[hr]
 unfold parseA at hr
 have hsl:=split_len l
 have hsp:=fun w h=>split_any l w h hl
 obtain⟨L,hL⟩:∃L,Lib.split l [46]=L:=⟨_,rfl⟩
 rw[hL] at hr hsl hsp
 have HSL:=Lib.hid hsl
 clear hL hsl
 go_enter Tryz.func174,Tryz.ntmps174
 go_wp2_with fail
 refine (hsp w hW).mono ?_
 rintro e w1 ⟨A,n,c,rfl,rd,hn,f1⟩
 have hLn:=rd.1
 clear hsp
 by_cases h4:n=4
 ·subst h4
  rw[if_pos hLn] at hr
  have HR:=Lib.hid hr;clear hr
  have HLN:=Lib.hid hLn;clear hLn
  go_wp2_with fail
  go_loopw [16,5] (fun v16 v5 wr=>∃(k a:Nat),v16=.int .i64 k∧v5=.int .u32 a∧k≤4∧a<256^k∧parseGo a (L.drop k)=r∧Below w1.heap.size w1 wr) (fun v16 _ _=>4-(intOf v16).toNat)
  case atStart=>exact⟨0,0,rfl,rfl,by omega,by decide,HR.out,Below.refl _ _⟩
  case round =>
   obtain⟨k,a,rfl,rfl,hk,ha,hp,f2⟩:=hrel
   have HP:=Lib.hid hp;clear hp
   have HA:=Lib.hid ha;clear ha
   by_cases hk4:k<4
   ·have d1:decide ((k:Int)<4)=true:=by simp;omega
    have b1:(0:Int)≤(k:Int):=by omega
    have b2:(k:Int)<4:=by omega
    obtain⟨bk,off,rfl,hb,q0⟩:=((rd.below f2).more f2.size).str (k:=k) hk4
    have hxl:=HSL.out (slAt L k) (by rw[slAt_eq (by have:=HLN.out;omega)];exact List.getElem_mem _)
    have hdr:L.drop k=slAt L k::L.drop (k+1):=by
     rw[slAt_eq (by have:=HLN.out;omega)]
     exact List.drop_eq_getElem_cons (by have:=HLN.out;omega)
    have hpp:=HP.out
    rw[hdr,parseGo] at hpp
    have hs:=smallS_le (slAt L k) 255 (by omega)
    have hsm:=fun w h=>small_any (slAt L k) 255 w h (by omega) (by omega) (by omega)
    have ha16:a<16777216:=Nat.lt_of_lt_of_le HA.out (Nat.le_trans (Nat.pow_le_pow_right (by omega) (show k≤3 by omega)) (by decide))
    obtain⟨sv,hsv⟩:∃v,smallS (slAt L k) 255=v:=⟨_,rfl⟩
    rw[hsv] at hpp hs hsm
    clear hsv hdr
    generalize slAt L k=x at *
    by_cases hneg:sv<0
    ·rw[if_pos hneg] at hpp
     have HPP:=Lib.hid hpp;clear hpp
     have d2:decide (sv<0)=true:=by simp;omega
     go_wp2_with fail
     refine (hsm wr (hW.below hlt (f1.trans (f2.mono f1.size)))).mono ?_
     rintro e w3 ⟨rfl,f3⟩
     have f4:=(f1.trans (f2.mono f1.size)).trans (f3.mono (Nat.le_trans f1.size f2.size))
     go_wp2_with fail
     go_ret2
     exact⟨by rw[←HPP.out];rfl,f4⟩
    rw[if_neg hneg] at hpp
    have HPP:=Lib.hid hpp;clear hpp
    have d2:decide (sv<0)=false:=by simp;omega
    obtain⟨m,rfl⟩:∃m:Nat,sv=(m:Int):=⟨sv.toNat,by omega⟩
    have hm:m<256:=by omega
    have hor:=shl_or a m ha16 hm
    have w1':IntKind.u32.wrap ((a:Int)*256)=(a:Int)*256:=by rw[IntKind.wrap_u32'];omega
    have w1'':(a:Int)*256%4294967296=(a:Int)*256:=by omega
    have w2':IntKind.u32.wrap (m:Int)=(m:Int):=by rw[IntKind.wrap_u32'];omega
    have w2'':(m:Int)%4294967296=(m:Int):=by omega
    go_wp2_with fail
    refine (hsm wr (hW.below hlt (f1.trans (f2.mono f1.size)))).mono ?_
    rintro e w3 ⟨rfl,f3⟩
    have f4:=f2.trans (f3.mono f2.size)
    go_wp2_with fail
    go_roundw
    case rel =>
     refine⟨k+1,a*256+m,by go_num,by first|rfl|go_num,by omega,?_,?_,f4⟩
     ·have:=HA.out;rw[Nat.pow_succ];omega
     have:=HPP.out;rwa [Int.toNat_natCast] at this
    case measure=>simp[intOf];omega
   have hk5:k=4:=by omega
   subst hk5
   have hpp:=HP.out
   rw[List.drop_of_length_le (by have:=HLN.out;omega)] at hpp
   simp only[parseGo] at hpp
   have HPP:=Lib.hid hpp;clear hpp
   go_wp2_with fail
   go_ret2
   exact⟨by rw[←HPP.out];rfl,f1.trans (f2.mono f1.size)⟩
 rw[if_neg (by omega)] at hr
 have HR:=Lib.hid hr;clear hr
 have hne:((n:Int)==4)=false:=by simp;omega
 have hne2:((n:Int) !=4)=true:=by simp;omega
 go_wp2_with fail
 go_ret2
 exact⟨by rw[←HR.out];rfl,f1⟩
end Go.Proofs.YtpcdmbajfmnoiaaGreatDoor
