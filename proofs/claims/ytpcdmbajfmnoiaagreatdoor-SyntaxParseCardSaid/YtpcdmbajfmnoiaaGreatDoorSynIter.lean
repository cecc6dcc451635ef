/- The iterators of syntax.lines and strings.SplitSeq: what they hand on. Conditions: texts of a million bytes at most; the library's variables hold what they should. -/
import Derived.Test.YtpcdmbajfmnoiaaGreatDoorSeqBox
import Derived.Test.YtpcdmbajfmnoiaaGreatDoorSynParseAll
import Derived.RangeFuncLeaves
import Derived.OwnWalkIn
import Derived.TacticsInMore
import Derived.LoopNIn
import Derived.LoopIn
namespace Go.Proofs.YtpcdmbajfmnoiaaGreatDoor
set_option linter.unusedVariables false
set_option linter.unusedSimpArgs false
open Go.RowKit
attribute [local go_sem] Oper.semAt_some
def numd:Nat→List (List UInt8)→List (Int×List UInt8)
 | _,[]=>[]
 | n,x::r=>if r=[] then (if x=[] then [] else [(-(n:Int),x)]) else ((n:Int),x)::numd (n+1) r
def encLn(q:Int×List UInt8):Array Value:=#[.int .i64 q.1,.string (strB q.2)]
def encSt(q:List UInt8):Array Value:=#[.string (strB q)]
theorem numd_nil(n:Nat):numd n (spl 10 [])=[]:=rfl
theorem numd_hit(n:Nat){s x r:List UInt8}(h:s=x++10::r)(hx:(10:UInt8)∉x):numd n (spl 10 s)=((n:Int),x)::numd (n+1) (spl 10 r):=by
 rw[h,spl_app r hx,numd,if_neg (spl_ne _ _)]
theorem numd_miss(n:Nat){s:List UInt8}(h:(10:UInt8)∉s)(h0:s≠[]):numd n (spl 10 s)=[(-(n:Int),s)]:=by
 rw[spl_no h,numd,if_pos rfl,if_neg h0]
theorem cut_miss{c:UInt8}{l:List UInt8}(h:(Lib.cut l [c]).2.2=false):(Lib.cut l [c]).1=l∧c∉l:=by
 unfold Lib.cut at h ⊢
 split at h
 ·cases h
 rename_i h1
 rw[if_neg h1]
 exact⟨rfl,idx_none h1⟩
theorem cut_out{c:UInt8}{l:List UInt8}(h:(Lib.cut l [c]).2.2=true):c∉(Lib.cut l [c]).1:=by
 unfold Lib.cut at h ⊢
 split at h
 ·rename_i h1
  rw[if_pos h1]
  exact idx_no h1
 cases h
theorem below_grown0{w w':World}(h:Below w.heap.size w w'):w.grownBy w' none:=⟨h.os,h.tape,h.output,h.size,fun k hk _=>h.block k hk⟩
theorem abides_below{β:Type}{B:Nat}{J:β→World→Prop}(hJ:AbidesFrom B J){s:β}{W W':World}(h:J s W)(hb:Below W.heap.size W W'):J s W':=hJ s W W' none h (below_grown0 hb) (fun r e=>by cases e)
theorem cut_any10(l:List UInt8)(w:World)(hW:LdW w)(hl:l.length≤1000000) :
  Calls Tryz.prog 50 #[.string (strB l),.string ⟨#[10]⟩] w fun e w'=>e=.returned (.tuple #[.string (strB (Lib.cut l [10]).1),.string (strB (Lib.cut l [10]).2.1),.bool (Lib.cut l [10]).2.2])∧Below w.heap.size w w':=by
 obtain⟨m,hm⟩:=hW.max
 refine (strings_Cut (strB l) ⟨#[10]⟩ m w (by rw[strB_size];omega) hm).mono ?_
 rintro e w' ⟨rfl,n,rfl⟩
 exact⟨rfl,belowN (Below.refl _ w) n⟩
set_option maxRecDepth 100000 in
set_option maxHeartbeats 2000000 in
theorem lines_box(n:Nat)(hn:1≤n)(s:List UInt8)(b:Nat)(w:World)(hs:s.length≤1000000)(hb:Blk w b 9 [.string (strB s)]) :
  SeqBox Fence.wide n Tryz.prog 49 #[.pointer (some ⟨b,0,none⟩)] encLn b LdW (numd 1 (spl 10 s)) w:=by
 intro l J Jx W hW hJa hJb hJG hY h0
 have HJA:=Lib.hid hJa;have HJB:=Lib.hid hJb;clear hJa hJb
 refine callsIn_of_wp Tryz.func49 rfl trivial ?_ rfl
 simp only[Tryz.ntmps49,List.size_toArray,List.length_cons,List.length_nil,Nat.reduceAdd,Nat.reduceSub,Array.replicate_succ,Array.replicate_zero,List.push_toArray,List.append_toArray,List.nil_append,List.cons_append]
 have hb':=hb.below hW hb.lt
 gi_wp2
 gi_loopw [3] (fun p wr=>∃(pre:List (Int×List UInt8)) (k:Nat) (r:List UInt8),p=.int .i64 k∧numd 1 (spl 10 s)=pre++numd k (spl 10 r)∧Blk wr b 9 [.string (strB r)]∧k+r.length≤s.length+1∧1≤k∧J pre wr) (fun p _=>s.length+2-(intOf p).toNat)
 case atStart=>exact⟨[],1,s,rfl,rfl,hb',by omega,by omega,h0⟩
 case round =>
  obtain⟨pre,k,r,rfl,hx,hbl,hkr,hk1,hJs⟩:=hrel
  have e0:wr.cell? ⟨b,0,none⟩=some (.string (strB r)):=hbl.cell 0
  have hf0:wr.frozen? ⟨b,0,none⟩=false:=hbl.frozen 0
  have hW0:=hJG _ _ hJs
  by_cases hr0:r=[]
  ·subst hr0
   have y1:(strB []).toList.isEmpty=true:=by rw[strB_toList];rfl
   rw[numd_nil,List.append_nil] at hx
   have HX:=Lib.hid hx;clear hx
   gi_wp2
   go_end0
   exact⟨⟨_,rfl⟩,.inl (by rw[HX.out];exact hJs)⟩
  have y1:(strB r).toList.isEmpty=false:=by rw[strB_toList];simpa using hr0
  have hr1:0<r.length:=by rcases r with _|⟨x,r⟩;exact absurd rfl hr0;simp
  have hc:=fun u hu=>cut_any10 r u hu (by omega)
  have hcl:=cut_len r [10]
  rcases hok:(Lib.cut r [10]).2.2 with _|_
  ·obtain⟨q1,q2⟩:=cut_miss hok
   rw[hok,q1] at hc
   rw[numd_miss k q2 hr0] at hx
   generalize (Lib.cut r [10]).2.1=rest at *
   have HX:=Lib.hid hx;clear hx
   clear hok q1 hcl
   have hy:=fun W1 (h1:J pre W1)=>(show YieldAt Fence.wide (n-1) Tryz.prog l #[.int .i64 (-(k:Int)),.string (strB r)] W1 _ from hY pre (-(k:Int),r) W1 h1 ⟨[],HX.out⟩)
   generalize hs1:strB r=sr at *
   clear hs1
   have HY:=Lib.hid hy;clear hy
   gi_wp2_with (refine⟨trivial,?_⟩;gi_at_call 50;refine (callsIn_wide.2 (hc _ hW0)).mono ?_;rintro e w2 ⟨rfl,f2⟩)
   have hJ2:=abides_below HJA.out hJs f2
   obtain⟨fn,tmps,assign,body,hy,hR⟩:=HY.out w2 hJ2
   clear hY
   simp only[hy]
   gi_wp2
   refine hR.mono ?_
   rintro e W3 (⟨rfl,hJ3,hk3⟩|⟨rfl,hJx3⟩)
   ·gi_wp2
    refine bodyPost_ret (results_none rfl _ _ _) rfl ?_
    exact⟨⟨_,rfl⟩,.inl (by rw[HX.out];exact hJ3)⟩
   gi_wp2
   refine bodyPost_ret (results_none rfl _ _ _) rfl ?_
   exact⟨⟨_,rfl⟩,.inr ⟨_,hJx3⟩⟩
  have q1:=cut_of hok
  have q2:=cut_out hok
  rw[hok] at hc
  rw[numd_hit k q1 q2] at hx
  generalize (Lib.cut r [10]).1=ln at *
  generalize (Lib.cut r [10]).2.1=rest at *
  have hlr:k+1+rest.length≤s.length+1:=by
   have:=congrArg List.length q1
   simp only[List.length_append,List.length_cons] at this
   omega
  have HX:=Lib.hid hx;clear hx
  clear hok q1 q2 hcl
  have hy:=fun W1 (h1:J pre W1)=>(show YieldAt Fence.wide (n-1) Tryz.prog l #[.int .i64 (k:Int),.string (strB ln)] W1 _ from hY pre ((k:Int),ln) W1 h1 ⟨_,HX.out⟩)
  generalize hs0:strB r=s0 at *
  clear hs0
  generalize hs1:strB ln=sl at *
  generalize hs2:strB rest=sr at *
  clear hs1
  have HS2:=Lib.hid hs2;clear hs2
  have HY:=Lib.hid hy;clear hy
  have hk9:¬9223372036854775807<(k:Int)+1:=by omega
  gi_wp2_with (refine⟨trivial,?_⟩;gi_at_call 50;refine (callsIn_wide.2 (hc _ hW0)).mono ?_;rintro e w2 ⟨rfl,f2⟩)
  have hJ2:=abides_below HJA.out hJs f2
  obtain⟨fn,tmps,assign,body,hy,hR⟩:=HY.out w2 hJ2
  clear hY
  have hb2:=hbl.below f2 hbl.lt
  simp only[hy]
  gi_wp2
  refine hR.mono ?_
  rintro e W3 (⟨rfl,hJ3,hk3⟩|⟨rfl,hJx3⟩)
  ·have hb3:Blk W3 b 9 [.string s0]:=hk3.trans hb2
   have e3:W3.cell? ⟨b,0,none⟩=some (.string s0):=hb3.cell 0
   have f3:W3.frozen? ⟨b,0,none⟩=false:=hb3.frozen 0
   clear e0 hf0
   gi_wp2
   go_roundw
   case rel=>exact⟨pre++[((k:Int),ln)],k+1,rest,by go_num,by rw[HX.out,List.append_assoc];rfl,by rw[HS2.out];exact hb3.set 0 _,by omega,by omega,HJB.out _ _ _ hJ3⟩
   case measure=>simp[intOf];omega
  gi_wp2
  refine bodyPost_ret (results_none rfl _ _ _) rfl ?_
  exact⟨⟨_,rfl⟩,.inr ⟨_,hJx3⟩⟩
theorem index44_any(l:List UInt8)(w:World)(hW:LdW w)(hl:l.length≤1000000) :
  Calls Tryz.prog 133 #[.string (strB l),.string ⟨#[44]⟩] w fun e w'=>e=.returned (.int .i64 (Lib.index l [44]))∧w=w':=by
 obtain⟨m,hm⟩:=hW.max
 refine (strings_Index (strB l) ⟨#[44]⟩ m w (by rw[strB_size];omega) hm).mono ?_
 rintro e w' ⟨rfl,rfl⟩
 exact⟨rfl,rfl⟩
theorem ext_strB(l:List UInt8)(f i:Nat):(strB l).extract f i=strB ((l.drop f).take (i-f)):=by
 unfold strB
 apply ByteArray.ext
 simp[ByteArray.data_extract]
def strSz(b:Nat)(w:World):Nat:=match w.cell? ⟨b,0,none⟩ with
 | some (.string s)=>s.size
 | _=>0
set_option maxRecDepth 100000 in
set_option maxHeartbeats 2000000 in
theorem split_box(n:Nat)(hn:1≤n)(s:List UInt8)(b c d:Nat)(w:World)(hs:s.length≤1000000)(hb:Blk w b 9 [.string (strB s)])(hbc:b≠c)(hbd:b≠d) :
  SeqBox Fence.wide n Tryz.prog 202 #[.pointer (some ⟨c,0,none⟩),.pointer (some ⟨b,0,none⟩),.pointer (some ⟨d,0,none⟩)] encSt b (fun u=>LdW u∧u.cell? ⟨c,0,none⟩=some (.string ⟨#[44]⟩)∧u.cell? ⟨d,0,none⟩=some (.int .i64 0)) (spl 44 s) w:=by
 intro l J Jx W hW hJa hJb hJG hY h0
 have HJA:=Lib.hid hJa;have HJB:=Lib.hid hJb;clear hJa hJb
 refine callsIn_of_wp Tryz.func202 rfl trivial ?_ rfl
 simp only[Tryz.ntmps202,List.size_toArray,List.length_cons,List.length_nil,Nat.reduceAdd,Nat.reduceSub,Array.replicate_succ,Array.replicate_zero,List.push_toArray,List.append_toArray,List.nil_append,List.cons_append]
 have hb':=hb.below hW hb.lt
 obtain⟨hW0,hc0,hd0⟩:=hJG _ _ h0
 gi_wp2
 gi_loopw [7,8] (fun p q wr=>∃(pre:List (List UInt8)) (r:List UInt8),spl 44 s=pre++spl 44 r∧Blk wr b 9 [.string (strB r)]∧r.length≤s.length∧J pre wr) (fun p q wr=>strSz b wr)
 case atStart=>exact⟨[],s,rfl,hb',Nat.le_refl _,h0⟩
 case round =>
  obtain⟨pre,r,hx,hbl,hkr,hJs⟩:=hrel
  have e0:wr.cell? ⟨b,0,none⟩=some (.string (strB r)):=hbl.cell 0
  have hf0:wr.frozen? ⟨b,0,none⟩=false:=hbl.frozen 0
  obtain⟨hW1,hc1,hd1⟩:=hJG _ _ hJs
  have hc:=fun u hu=>index44_any r u hu (by omega)
  by_cases hi:0≤Lib.index r [44]
  ·have q1:=idx_has hi
   have q2:=idx_no hi
   obtain⟨i,hie⟩:∃i:Nat,Lib.index r [44]=(i:Int):=⟨(Lib.index r [44]).toNat,by omega⟩
   rw[hie] at q1 q2 hc
   rw[Int.toNat_natCast] at q1 q2
   clear hi hie
   have hil:i<r.length:=by
    have:=congrArg List.length q1
    simp only[List.length_append,List.length_cons,List.length_take,List.length_drop] at this
    omega
   have e2:spl 44 r=r.take i::spl 44 (r.drop (i+1)):=by
    have e:=spl_app (r.drop (i+1)) q2
    rw[←q1] at e
    exact e
   rw[e2] at hx
   have HX:=Lib.hid hx;clear hx
   have hx1:(strB r).extract 0 i=strB (r.take i):=by rw[ext_strB];simp
   have hx2:(strB r).extract (i+1) r.length=strB (r.drop (i+1)):=by rw[ext_strB,List.take_of_length_le (by rw[List.length_drop];omega)]
   have hy:=fun W1 (h1:J pre W1)=>(show YieldAt Fence.wide (n-1) Tryz.prog l #[.string (strB (r.take i))] W1 _ from hY pre (r.take i) W1 h1 ⟨_,HX.out⟩)
   have hsz:(strB r).size=r.length:=strB_size r
   have HY:=Lib.hid hy;clear hy
   have b1:(0:Int)≤(i:Int):=by omega
   have b2:(i:Int)≤((strB r).size:Int):=by omega
   have b3:(i:Int)+1≤((strB r).size:Int):=by omega
   have d1:decide ((i:Int)<0)=false:=by simp
   clear q1 q2 e2 hb
   gi_wp2_with (refine⟨trivial,?_⟩;gi_at_call 133;refine (callsIn_wide.2 (hc _ hW1)).mono ?_;rintro e w2 ⟨rfl,rfl⟩)
   obtain⟨fn,tmps,assign,body,hy,hR⟩:=HY.out _ hJs
   clear HY
   simp only[hy]
   gi_wp2
   refine hR.mono ?_
   rintro e W3 (⟨rfl,hJ3,hk3⟩|⟨rfl,hJx3⟩)
   ·have hb3:Blk W3 b 9 [.string (strB r)]:=hk3.trans hbl
    have e3:W3.cell? ⟨b,0,none⟩=some (.string (strB r)):=hb3.cell 0
    have f3:W3.frozen? ⟨b,0,none⟩=false:=hb3.frozen 0
    obtain⟨hW3,hc3,hd3⟩:=hJG _ _ hJ3
    have hb4:=hb3.set 0 (.string (strB (r.drop (i+1))))
    have HB4:=Lib.hid hb4
    have HBL:=Lib.hid hbl
    clear e0 hf0 hb3 hb4 hbl
    gi_wp2
    go_roundw
    case rel=>exact⟨pre++[r.take i],r.drop (i+1),by rw[HX.out,List.append_assoc];rfl,HB4.out,by rw[List.length_drop];omega,HJB.out _ _ _ hJ3⟩
    case measure =>
     have m1:=HB4.out.cell 0
     have m2:=HBL.out.cell 0
     unfold strSz
     simp only[List.set_cons_zero,List.getElem?_cons_zero] at m1 m2
     rw[m1,m2]
     simp only[strB_size,List.length_drop]
     omega
   gi_wp2
   refine bodyPost_ret (results_none rfl _ _ _) rfl ?_
   exact⟨⟨_,rfl⟩,.inr ⟨_,hJx3⟩⟩
  have q2:=idx_none hi
  rw[spl_no q2] at hx
  obtain⟨i,hie⟩:∃i:Int,Lib.index r [44]=i:=⟨_,rfl⟩
  rw[hie] at hi hc
  have HX:=Lib.hid hx;clear hx
  have hy:=fun W1 (h1:J pre W1)=>(show YieldAt Fence.wide (n-1) Tryz.prog l #[.string (strB r)] W1 _ from hY pre r W1 h1 ⟨_,HX.out⟩)
  have HY:=Lib.hid hy;clear hy
  have d1:decide (i<0)=true:=by simp;omega
  clear q2 hb hie
  gi_wp2_with (refine⟨trivial,?_⟩;gi_at_call 133;refine (callsIn_wide.2 (hc _ hW1)).mono ?_;rintro e w2 ⟨rfl,rfl⟩)
  obtain⟨fn,tmps,assign,body,hy,hR⟩:=HY.out _ hJs
  clear HY
  simp only[hy]
  gi_wp2
  refine hR.mono ?_
  rintro e W3 (⟨rfl,hJ3,hk3⟩|⟨rfl,hJx3⟩)
  ·gi_wp2
   go_end0
   exact⟨⟨_,rfl⟩,.inl (by rw[HX.out];exact hJ3)⟩
  gi_wp2
  go_end0
  exact⟨⟨_,rfl⟩,.inr ⟨_,hJx3⟩⟩
end Go.Proofs.YtpcdmbajfmnoiaaGreatDoor
