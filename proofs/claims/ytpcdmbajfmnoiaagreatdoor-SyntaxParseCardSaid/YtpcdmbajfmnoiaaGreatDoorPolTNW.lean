/- A header's name's letters as a table. No condition. heads.token, heads.MayName. Condition: a text of a million bytes at most. policy.when. Conditions: sizes. -/
import Derived.Test.YtpcdmbajfmnoiaaGreatDoorPolData
import Derived.Laws.RangeAny
import Derived.Laws.RangeString
import Derived.Test.YtpcdmbajfmnoiaaGreatDoorPolTRS
namespace Go.Proofs.YtpcdmbajfmnoiaaGreatDoor
set_option linter.unusedVariables false
set_option linter.unusedSimpArgs false
open Go.RowKit
def tokL:List Nat:=[97,98,99,100,101,102,103,104,105,106,107,108,109,110,111,112,113,114,115,116,117,118,119,120,121,122,48,49,50,51,52,53,54,55,56,57,33,35,36,37,38,39,42,43,45,46,94,95,96,124,126]
def tokS:ByteArray:=⟨#[97,98,99,100,101,102,103,104,105,106,107,108,109,110,111,112,113,114,115,116,117,118,119,120,121,122,48,49,50,51,52,53,54,55,56,57,33,35,36,37,38,39,42,43,45,46,94,95,96,124,126]⟩
def tokI(n:Nat):List Int:=(List.range 256).map fun c=>if (tokL.take n).contains c then 1 else 0
def tokC(n:Nat):List Value:=(tokI n).map (Value.int .i64)
theorem tokC_len(n:Nat):(tokC n).length=256:=by simp[tokC,tokI]
theorem tok_succ:∀n:Fin 51,(tokI n.val).set (tokL.getD n.val 0) 1=tokI (n.val+1):=by decide +kernel
theorem tokC_succ{n:Nat}(h:n<51):(tokC n).set (tokL.getD n 0) (.int .i64 1)=tokC (n+1):=by
 unfold tokC
 rw[←tok_succ ⟨n,h⟩,List.map_set]
theorem tokS_size:tokS.size=51:=rfl
theorem tokS_at:∀n:Fin 51,tokS.data.toList.getD n.val 0=UInt8.ofNat (tokL.getD n.val 0)∧tokL.getD n.val 0<128:=by decide +kernel
theorem tokS_get{n:Nat}(h:n<51):(tokS[n]'(by rw[tokS_size];exact h)).toNat=tokL.getD n 0:=by
 have:=tokS_at ⟨n,h⟩
 obtain⟨h1,h2⟩:=this
 have e:tokS.data.toList.getD n 0=tokS[n]'(by rw[tokS_size];exact h):=by
  have:n<tokS.data.toList.length:=h
  rw[List.getD_eq_getElem?_getD,List.getElem?_eq_getElem this]
  rfl
 rw[←e]
 simp only at h1 h2
 rw[h1,UInt8.toNat_ofNat']
 omega
theorem tok_end:∀c:Fin 256,(tokI 51)[c.val]?=some (if hdOk (UInt8.ofNat c.val) then 1 else 0):=by decide +kernel
theorem tokC_at(c:UInt8):(tokC 51)[c.toNat]?=some (.int .i64 (if hdOk c then 1 else 0)):=by
 have h:=tok_end ⟨c.toNat,c.toNat_lt⟩
 unfold tokC
 rw[List.getElem?_map]
 simp only at h
 rw[h,UInt8.ofNat_toNat]
 rfl
theorem modify_push2(a:Array Obj)(x y:Obj)(f:Obj→Obj):((a.push x).push y).modify a.size f=(a.push (f x)).push y:=by
 apply Array.ext
 ·simp
 intro i h1 h2
 rw[Array.getElem_modify]
 simp only[Array.size_modify,Array.size_push] at h1
 rcases Nat.lt_trichotomy i a.size with h|h|h
 ·rw[if_neg (by omega)]
  simp[Array.getElem_push,h,show i<a.size+1 by omega]
 ·subst h
  rw[if_pos rfl]
  simp[Array.getElem_push]
 rw[if_neg (by omega)]
 simp[Array.getElem_push,show ¬i<a.size+1 by omega]
theorem iter_setC(w:World)(cs:List Value)(C:Nat)(v:Value)(ty:Nat)(s:ByteArray)(p:Nat):((w.alloc (.cells cs.toArray ty)).iter s p).setCell ⟨w.heap.size,C,none⟩ v=(w.alloc (.cells (cs.set C v).toArray ty)).iter s p:=by
 unfold World.setCell World.iter World.alloc
 simp only[modify_push2]
 congr 3
 simp
open Go.RowKit Go.Sort
set_option maxRecDepth 100000 in
set_option maxHeartbeats 2000000 in
theorem token_any(w:World):Calls Tryz.prog 154 #[] w fun e w'=>e=.returned (.agg (tokC 51).toArray)∧Below w.heap.size w w':=by
 have hi:(Tryz.prog.info? 196).map (·.size)=some (tokC 51).length:=by rw[tokC_len];kernel_rfl
 have Hi:=Lib.hid hi;clear hi
 go_enter Tryz.func154,Tryz.ntmps154
 go_wp2_with fail
 go_loopw [2] (fun _ wr=>∃pos:Nat,pos≤51∧wr=(w.alloc (.cells (tokC pos).toArray 196)).iter tokS pos) (fun _ wr=>51-wr.iterPos (w.heap.size+1))
 case atStart=>exact⟨0,by omega,rfl⟩
 case round =>
  obtain⟨pos,hp,rfl⟩:=hrel
  have hsz:∀q,(w.alloc (.cells (tokC q).toArray 196)).heap.size=w.heap.size+1:=fun q=>by simp
  by_cases hlt:pos<51
  ·have hnx:∀ty,(Instr.next (.pointer (some ⟨w.heap.size+1,0,none⟩)) true ty).run Tryz.prog ((w.alloc (.cells (tokC pos).toArray 196)).iter tokS pos)=.ok (.tuple #[.bool true,.int .i64 pos,.int .i32 (tokL.getD pos 0:Nat)]) ((w.alloc (.cells (tokC pos).toArray 196)).iter tokS (pos+1)):=fun ty=>by
    have:=run_next_ascii (P:=Tryz.prog) (w.alloc (.cells (tokC pos).toArray 196)) tokS pos ty (show pos<tokS.size from hlt) (by have:=tokS_get hlt;have h2:=(tokS_at ⟨pos,hlt⟩).2;simp only at h2;omega)
    have e:=tokS_get hlt
    rw[hsz] at this
    rw[←e]
    exact this
   have hc:tokL.getD pos 0<128:=(tokS_at ⟨pos,hlt⟩).2
   have hst:=iter_setC w (tokC pos) (tokL.getD pos 0) (.int .i64 1) 196 tokS (pos+1)
   rw[tokC_succ hlt] at hst
   have kb:Blk ((w.alloc (.cells (tokC pos).toArray 196)).iter tokS (pos+1)) w.heap.size 196 (tokC pos):=(Blk.of_new w 196 (tokC pos)).alloc _
   have hl:=tokC_len pos
   have hm:∀q,((w.alloc (.cells (tokC q).toArray 196)).iter tokS q).iterPos (w.heap.size+1)=q:=fun q=>by rw[←hsz q];exact World.iterPos_iter _ _ _
   have HM:=Lib.hid hm;clear hm
   generalize tokL.getD pos 0=C at *
   obtain⟨u,hcell⟩:∃u,((w.alloc (.cells (tokC pos).toArray 196)).iter tokS (pos+1)).cell? ⟨w.heap.size,C,none⟩=some u:=⟨_,by rw[kb.cell];exact List.getElem?_eq_getElem (by rw[hl];omega)⟩
   have hfr:((w.alloc (.cells (tokC pos).toArray 196)).iter tokS (pos+1)).frozen? ⟨w.heap.size,C,none⟩=false:=kb.frozen _
   have b0:(0:Int)≤(C:Int):=by omega
   have b1:(C:Int)<256:=by omega
   clear kb hl
   generalize (w.alloc (.cells (tokC pos).toArray 196)).iter tokS (pos+1)=wn at *
   have HS:=Lib.hid hst;clear hst
   go_wp2_with fail
   go_roundw
   case rel=>exact⟨pos+1,by omega,HS.out⟩
   case measure=>rw[HS.out,HM.out,HM.out];omega
  obtain rfl:pos=51:=by omega
  have hnx:∀ty,(Instr.next (.pointer (some ⟨w.heap.size+1,0,none⟩)) true ty).run Tryz.prog ((w.alloc (.cells (tokC 51).toArray 196)).iter tokS 51)=.ok (.tuple #[.bool false]) ((w.alloc (.cells (tokC 51).toArray 196)).iter tokS 51):=fun ty=>by
   have:=run_next_end (P:=Tryz.prog) (w.alloc (.cells (tokC 51).toArray 196)) tokS 51 ty (by rw[tokS_size];omega)
   rw[hsz] at this
   exact this
  have kb:Blk ((w.alloc (.cells (tokC 51).toArray 196)).iter tokS 51) w.heap.size 196 (tokC 51):=(Blk.of_new w 196 (tokC 51)).alloc _
  have f1:Below w.heap.size w ((w.alloc (.cells (tokC 51).toArray 196)).iter tokS 51):=((Below.refl _ w).alloc (Nat.le_refl _) _).alloc (by simp) _
  have hone:(tokC 51).all (·.oneCell')=true:=by rfl
  obtain⟨Z,hZ⟩:∃Z,tokC 51=Z:=⟨_,rfl⟩
  rw[hZ] at kb f1 hone hnx Hi ⊢
  have HZ:=Lib.hid hZ;clear hZ
  have KB:=Lib.hid kb;have HO:=Lib.hid hone;clear kb hone
  generalize (w.alloc (.cells Z.toArray 196)).iter tokS 51=wn at *
  go_wp2_with (first
   | (refine load_blk KB.out rfl 196 (.tmp 0) rfl rfl Tryz.underlying196 Hi.out ?_)
   | (refine store_blk KB.out rfl 196 (.tmp 0) (.tmp 9) rfl rfl (us:=Z) (by rfl) Hi.out rfl HO.out ?_;intro w' k2 hg))
  exact bodyPost_ret (k2.sized rfl _ rfl Tryz.underlying196 Hi.out) rfl ⟨by rw[HZ.out],f1.grown hg f1.size (by simp)⟩
theorem hd_no{l:List UInt8}{i:Nat}(hi:i<l.length)(h:hdOk (at8 l i)=false):hdMay l=false:=by
 have e:l.all hdOk=false:=by
  rw[List.all_eq_false]
  refine⟨at8 l i,?_,by rw[h];simp⟩
  simp[at8,List.getD,hi]
 unfold hdMay
 rw[e,Bool.false_and]
theorem hd_yes{l:List UInt8}(h:∀i,i<l.length→hdOk (at8 l i)=true):hdMay l=(decide (1≤l.length)&&decide (l.length≤64)):=by
 have e:l.all hdOk=true:=by
  rw[List.all_eq_true]
  intro x hx
  obtain⟨i,hi,rfl⟩:=List.getElem_of_mem hx
  have:=h i hi
  simpa [at8,List.getD,hi] using this
 unfold hdMay
 rw[e,Bool.true_and]
set_option maxRecDepth 100000 in
set_option maxHeartbeats 2000000 in
theorem mayName_any(l:List UInt8)(w:World)(hok:okS l):Calls Tryz.prog 115 #[.string (strB l)] w fun e w'=>e=.returned (.bool (hdMay l))∧Below w.heap.size w w':=by
 have hi:(Tryz.prog.info? 196).map (·.size)=some (tokC 51).length:=by rw[tokC_len];kernel_rfl
 have Hi:=Lib.hid hi;clear hi
 unfold okS at hok
 obtain⟨r,hr⟩:∃r,hdMay l=r:=⟨_,rfl⟩
 rw[hr]
 have HR:=Lib.hid hr;clear hr
 have hsz:=strB_size l
 generalize hs:strB l=s at *
 have hat:∀k (h:k<s.size),(s[k]'h).toNat=(at8 l k).toNat:=by subst hs;exact strB_at l
 have Hs:=Lib.hid hs
 have Hat:=Lib.hid hat
 clear hs hat
 generalize hn:l.length=n at *
 have Hn:=Lib.hid hn
 clear hn
 have hone:(tokC 51).all (·.oneCell')=true:=by rfl
 have HO:=Lib.hid hone;clear hone
 have htk:=tokC_at
 have hlen:=tokC_len 51
 obtain⟨Z,hZ⟩:∃Z,tokC 51=Z:=⟨_,rfl⟩
 have hz:∀w,Calls Tryz.prog 154 #[] w fun e w'=>e=.returned (.agg Z.toArray)∧Below w.heap.size w w':=by rw[←hZ];exact token_any
 rw[hZ] at htk hlen Hi HO
 clear hZ
 have HT:=Lib.hid htk;have HLen:=Lib.hid hlen;clear htk hlen
 go_enter Tryz.func115,Tryz.ntmps115
 go_wp2_with fail
 refine (hz w).mono ?_
 rintro e w1 ⟨rfl,f1⟩
 have f2:=f1.alloc f1.size (.cells Tryz.zeroCells196 196)
 have kb:Blk (w1.alloc (.cells Tryz.zeroCells196 196)) w1.heap.size 196 Tryz.zeroCells196.toList:=Blk.newAt rfl _ _
 have hgz:=f1.size
 have KB:=Lib.hid kb;clear kb
 go_wp2_with (first
  | (refine store_blk KB.out rfl 196 (.tmp 3) (.tmp 5) rfl rfl (us:=Z) (by rfl) Hi.out (by rw[HLen.out];rfl) HO.out ?_;intro w3 k3 hg))
 have f3:=f2.grown hg f2.size (by intro k hk;injection hk with hk;omega)
 have K3:=Lib.hid k3;clear k3 f1 f2 hg KB
 go_loopw [4] (fun i wr=>∃k:Nat,k≤n∧i=.int .i64 k∧wr=w3∧(∀j,j<k→hdOk (at8 l j)=true)) (fun i _=>n-(intOf i).toNat)
 case atStart=>exact⟨0,by omega,rfl,rfl,fun j hj=>absurd hj (by omega)⟩
 case round =>
  obtain⟨k,hk,rfl,rfl,hok2⟩:=hrel
  have Hok:=Lib.hid hok2
  clear hok2
  by_cases hlt:k<n
  ·have d5:decide ((k:Int)<(n:Int))=true:=by simp;omega
   have b1:(0:Int)≤(k:Int):=by omega
   have b2:(k:Int)<(n:Int):=by omega
   have qk:(s[k]'(by omega)).toNat=(at8 l k).toNat:=Hat.out k (by omega)
   have hc:=K3.out.cell (at8 l k).toNat
   rw[HT.out (at8 l k)] at hc
   have hlt8:=(at8 l k).toNat_lt
   generalize hC:(at8 l k).toNat=C at *
   have b3:(0:Int)≤(C:Int):=by omega
   have b4:(C:Int)<256:=by omega
   have HC:=Lib.hid hC
   clear hC
   rcases hd:hdOk (at8 l k) with _|_
   ·rw[hd] at hc
    simp only[Bool.false_eq_true,if_false] at hc
    have hno:=Lib.hid (hd_no (l:=l) (i:=k) (by rw[Hn.out];omega) hd)
    rw[HR.out] at hno
    clear hd
    go_wp2_with fail
    go_ret
    exact⟨by rw[hno.out];rfl,f3⟩
   rw[hd] at hc
   simp only[if_true] at hc
   have HD:=Lib.hid hd;clear hd
   go_wp2_with fail
   go_roundw
   case rel =>
    refine⟨k+1,by omega,by go_num,by trivial,fun j hj=>?_⟩
    by_cases hjk:j=k
    ·subst hjk;exact HD.out
    exact Hok.out j (by omega)
   case measure=>simp[intOf];omega
  have d5:decide ((k:Int)<(n:Int))=false:=by simp;omega
  obtain rfl:k=n:=by omega
  have hy:=hd_yes (l:=l) (fun i hi=>Hok.out i (by rw[Hn.out] at hi;exact hi))
  rw[HR.out,Hn.out] at hy
  have HY:=Lib.hid hy;clear hy
  by_cases k1:1≤k
  ·have g1:decide ((1:Int)≤(k:Int))=true:=by simp;omega
   by_cases k2:k≤64
   ·have g2:decide ((k:Int)≤64)=true:=by simp;omega
    go_wp2_with fail
    go_ret
    exact⟨ret_bool (by rw[HY.out];simp[k1,k2]),f3⟩
   have g2:decide ((k:Int)≤64)=false:=by simp;omega
   go_wp2_with fail
   go_ret
   exact⟨ret_bool (by rw[HY.out];simp[k2]),f3⟩
  have g1:decide ((1:Int)≤(k:Int))=false:=by simp;omega
  go_wp2_with fail
  go_ret
  exact⟨ret_bool (by rw[HY.out,decide_eq_false (show ¬1≤k by omega)];simp),f3⟩
set_option maxRecDepth 100000 in
set_option maxHeartbeats 2000000 in
theorem when_any(x:Wn)(cs:List Value)(w:World)(h:WnP w w.heap.size cs x)(hok:okWn x) :
  Calls Tryz.prog 70 #[.agg cs.toArray] w fun e w'=>e=.returned (.bool (wnMay x))∧Below w.heap.size w w':=by
 obtain⟨A,n,c,rfl,h1⟩:=vals_wn h
 obtain⟨v,hv,t1⟩:=h
 injection hv with _ hv
 injection hv with hv _
 subst hv
 obtain⟨k1,k2⟩:=hok
 have l1:=h1.1
 obtain⟨hd,ts⟩:=x
 simp only at l1 k1 k2 t1 h1 ⊢
 obtain⟨p,hp⟩:∃p,hdMay hd=p:=⟨_,rfl⟩
 obtain⟨q,hq⟩:∃q,rowsMay [ts]=q:=⟨_,rfl⟩
 have he:wnMay ⟨hd,ts⟩=(p&&(q&&decide (0<n))):=by rw[←hp,←hq,←l1];rfl
 rw[he]
 show Calls Tryz.prog 70 #[.agg #[.string (strB hd),.slice A n c]] w _
 have hname:=fun w=>mayName_any hd w k1
 rw[hp] at hname
 obtain⟨wb,hwb⟩:∃wb,w.alloc (.cells #[.string (strB hd),.slice A n c] 60)=wb:=⟨_,rfl⟩
 have f0:Below w.heap.size w wb:=by rw[←hwb];exact (Below.refl _ _).alloc (Nat.le_refl _) _
 have bl:=Blk.newAt (w:=w) rfl 60 #[.string (strB hd),.slice A n c]
 rw[hwb] at bl
 have e0:wb.cell? ⟨w.heap.size,0,none⟩=some (.string (strB hd)):=bl.cell 0
 have e1:wb.cell? ⟨w.heap.size,1,none⟩=some (.slice A n c):=bl.cell 1
 have hrows:∀w2,Below w.heap.size w w2→Calls Tryz.prog 104 #[.slice (some ⟨w2.heap.size,0,none⟩) 1 1] (w2.alloc (.cells #[.slice A n c] 43)) fun e w'=>e=.returned (.bool q)∧Below (w2.alloc (.cells #[.slice A n c] 43)).heap.size (w2.alloc (.cells #[.slice A n c] 43)) w':=fun w2 hb=>by
  rw[←hq]
  exact rows_any (some ⟨w2.heap.size,0,none⟩) 1 1 [ts] (w2.alloc (.cells #[.slice A n c] 43)) (by omega) (rows_new (w:=w2) (vs:=[.slice A n c]) (R:=[ts]) _ rfl (fun j hj=>by
   rcases j with _|j
   ·exact t1.mono hb.size hb
   ·exact absurd hj (by simp))) (by
   intro L hL
   simp only[List.mem_cons,List.mem_nil_iff,or_false] at hL
   subst hL
   exact k2)
 have HR:=Lib.hid hrows
 clear h1 t1 k1 k2 hp hq he hrows bl
 go_enter Tryz.func70,Tryz.ntmps70
 go_wp2_with fail
 refine (hname _).mono ?_
 rintro e w2 ⟨rfl,f2⟩
 have f3:=f0.trans (f2.mono f0.size)
 have e5:w2.cell? ⟨w.heap.size,1,none⟩=some (.slice A n c):=(f2.cell (World.block_lt_of_cell? wb _ e1)).trans e1
 cases p
 ·go_wp2_with fail
  go_ret
  exact⟨rfl,f3⟩
 go_wp2_with fail
 refine (HR.out w2 f3).mono ?_
 rintro e w4 ⟨rfl,f4⟩
 have fa:Below w2.heap.size w2 (w2.alloc (.cells #[.slice A n c] 43)):=(Below.refl _ _).alloc (Nat.le_refl _) _
 have f5:=fa.trans (f4.mono fa.size)
 have e6:w4.cell? ⟨w.heap.size,1,none⟩=some (.slice A n c):=(f5.cell (World.block_lt_of_cell? w2 _ e5)).trans e5
 have f6:=f3.trans (f5.mono f3.size)
 cases q
 ·go_wp2_with fail
  go_ret
  exact⟨by simp,f6⟩
 by_cases hn:0<n
 ·have d1:decide ((0:Int)<(n:Int))=true:=by simp;omega
  go_wp2_with fail
  go_ret
  exact⟨ret_bool (by simp[hn]),f6⟩
 have d1:decide ((0:Int)<(n:Int))=false:=by simp;omega
 go_wp2_with fail
 go_ret
 exact⟨ret_bool (by simp;omega),f6⟩
end Go.Proofs.YtpcdmbajfmnoiaaGreatDoor
