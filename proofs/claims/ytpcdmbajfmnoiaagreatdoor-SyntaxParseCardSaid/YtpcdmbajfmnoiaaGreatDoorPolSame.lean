/- Whether two terms, two nets are one; the document's terms, and Same of nets. Condition: a million at most. Printed by gen_psame.py. -/
import Derived.Test.YtpcdmbajfmnoiaaGreatDoorPolData
import Derived.BigQuiet
import Derived.Laws.StructEq
namespace Go.Proofs.YtpcdmbajfmnoiaaGreatDoor
set_option linter.unusedVariables false
set_option linter.unusedSimpArgs false
open Go.RowKit Go.Sort
theorem part_cell{P:Program}{e:Nat}{d:TypeDesc}(he:P.underlying e=some d)(hd:d.isRow=false)(xs:Array Value)(i:Nat)(v:Value)(hv:xs[i]?=some v)(w:World):(part e xs i).run P w=.ok v w:=by
 cases d<;>first|(simp[part,isAgg,run_underlying he,hv];done)|cases hd
theorem host_beq(a b:Int):(a==b)=decide (a=b):=by
 rw[Bool.eq_iff_iff];simp
theorem fld_step {P : Program} {w : World} {d : Nat} {xs ys : Array Value} {f : Field} {fs : List Field} (hf : f.name ≠ "_") {a b : Value} {r : Bool} (ha : (part f.type xs f.offset).run P w = .ok a w) (hb : (part f.type ys f.offset).run P w = .ok b w) (hr : (Op.equalIn d f.type a b).run P w = .ok r w) {q : Bool} (hq : (Op.eqFields d xs ys fs).run P w = .ok q w) :
  (Op.eqFields d xs ys (f::fs)).run P w=.ok (r&&q) w:=by
 simp only[Op.eqFields,hf,ne_eq,not_false_eq_true,if_true,Sem.run_bind,ha,hb,hr,Result.andThen_ok]
 cases r
 ·simp
 simpa using hq
theorem fld_nil{P:Program}{w:World}{d:Nat}{xs ys:Array Value}:(Op.eqFields d xs ys []).run P w=.ok true w:=by simp[Op.eqFields]
theorem eq_int{P:Program}{e:Nat}{k:IntKind}(d:Nat)(he:P.underlying e=some (.int k))(k':IntKind)(a b:Int)(w:World):(Op.equalIn (d+1) e (.int k' a) (.int k' b)).run P w=.ok (decide (a=b)) w:=by
 rw[run_equalIn_int w _ _ _ _ _ _ he,host_beq]
set_option maxRecDepth 100000 in
theorem run_cidr_eq(d:Nat)(a:Int)(b:Int)(a':Int)(b':Int)(w:World):(Op.equalIn (d+2) 85 (.agg #[.int .u32 a,.int .i64 b]) (.agg #[.int .u32 a',.int .i64 b'])).run Tryz.prog w=.ok (decide (a=a')&&decide (b=b')) w:=by
 rw[run_equalIn_struct (P:=Tryz.prog) w (d+1) 85 _ _ (by simp only[Program.fieldsOf,Tryz.underlying85]) (by kernel_rfl)]
 simp only[Program.fieldsOf,Tryz.underlying85]
 rw[←Bool.and_true (decide (b=b'))]
 refine fld_step (by decide) (part_cell Tryz.underlying83 rfl _ 0 (.int .u32 a) rfl w) (part_cell Tryz.underlying83 rfl _ 0 (.int .u32 a') rfl w) (eq_int d Tryz.underlying83 .u32 a a' w) ?_
 exact fld_step (by decide) (part_cell Tryz.underlying3 rfl _ 1 (.int .i64 b) rfl w) (part_cell Tryz.underlying3 rfl _ 1 (.int .i64 b') rfl w) (eq_int d Tryz.underlying3 .i64 b b' w) fld_nil
theorem run_nt_eq(a:Nat)(b:Int)(a':Nat)(b':Int)(w:World):(Op.equalIn 10000 85 (.agg #[.int .u32 (a:Int),.int .i64 b]) (.agg #[.int .u32 (a':Int),.int .i64 b'])).run Tryz.prog w=.ok (decide ((a,b)=(a',b'))) w:=by
 rw[run_cidr_eq 9998 a b a' b' w]
 congr 1
 rw[Bool.eq_iff_iff]
 simp only[Bool.and_eq_true,decide_eq_true_eq,Prod.mk.injEq]
 constructor
 ·rintro ⟨h1,h2⟩;exact⟨by omega,h2⟩
 rintro ⟨h1,h2⟩;exact⟨by omega,h2⟩
theorem strB_beq(a b:List UInt8):((strB a).toList==(strB b).toList)=decide (a=b):=by
 rw[strB_toList,strB_toList,Bool.eq_iff_iff]
 simp
theorem eq_str{P:Program}{e:Nat}(d:Nat)(he:P.underlying e=some .string)(a b:List UInt8)(w:World):(Op.equalIn (d+1) e (.string (strB a)) (.string (strB b))).run P w=.ok (decide (a=b)) w:=by
 rw[run_equalIn_string w _ _ _ _ he,strB_beq]
set_option maxRecDepth 100000 in
theorem run_term_eq(d:Nat)(a:Int)(s:List UInt8)(a':Int)(s':List UInt8)(w:World):(Op.equalIn (d+2) 42 (.agg #[.int .i64 a,.string (strB s)]) (.agg #[.int .i64 a',.string (strB s')])).run Tryz.prog w=.ok (decide (a=a')&&decide (s=s')) w:=by
 rw[run_equalIn_struct (P:=Tryz.prog) w (d+1) 42 _ _ (by simp only[Program.fieldsOf,Tryz.underlying42]) (by kernel_rfl)]
 simp only[Program.fieldsOf,Tryz.underlying42]
 rw[←Bool.and_true (decide (s=s'))]
 refine fld_step (by decide) (part_cell Tryz.underlying3 rfl _ 0 (.int .i64 a) rfl w) (part_cell Tryz.underlying3 rfl _ 0 (.int .i64 a') rfl w) (eq_int d Tryz.underlying3 .i64 a a' w) ?_
 exact fld_step (by decide) (part_cell Tryz.underlying9 rfl _ 1 (.string (strB s)) rfl w) (part_cell Tryz.underlying9 rfl _ 1 (.string (strB s')) rfl w) (eq_str d Tryz.underlying9 s s' w) fld_nil
theorem run_tm_eq(a:Int)(s:List UInt8)(a':Int)(s':List UInt8)(w:World):(Op.equalIn 10000 42 (.agg #[.int .i64 a,.string (strB s)]) (.agg #[.int .i64 a',.string (strB s')])).run Tryz.prog w=.ok (decide ((a,s)=(a',s'))) w:=by
 rw[run_term_eq 9998 a s a' s' w]
 congr 1
 rw[Bool.eq_iff_iff]
 simp
def tmAt(L:List Tm)(k:Nat):Tm:=L.getD k (0,[])
theorem tmAt_eq{L:List Tm}{k:Nat}(h:k<L.length):tmAt L k=L[k]:=by simp[tmAt,List.getD,h]
theorem RdR.tmE{w:World}{B n k:Nat}{A:Option Addr}{L:List Tm}(h:RdR tmC 2 w B A n L)(hk:k<n):∃b off,A=some ⟨b,off,none⟩∧b<B∧w.cell? ⟨b,off+k*2,none⟩=some (.int .i64 (tmAt L k).1)∧w.cell? ⟨b,off+k*2+1,none⟩=some (.string (strB (tmAt L k).2)):=by
 obtain⟨hl,h⟩:=h
 obtain⟨b,off,h1,h2,h3⟩:=h (by omega)
 rw[tmAt_eq (by omega)]
 exact⟨b,off,h1,h2,h3 k (by omega) 0 _ rfl,h3 k (by omega) 1 _ rfl⟩
theorem tsame_next{L M:List Tm}{k:Nat}(hL:k<L.length)(hM:k<M.length)(h:L.take k=M.take k)(he:tmAt L k=tmAt M k):L.take (k+1)=M.take (k+1):=by
 rw[List.take_succ_eq_append_getElem hL,List.take_succ_eq_append_getElem hM,h,←tmAt_eq hL,←tmAt_eq hM,he]
theorem tsame_not{L M:List Tm}{k:Nat}(hL:k<L.length)(hM:k<M.length)(he:tmAt L k≠tmAt M k):L≠M:=fun e=>he (by rw[e])
theorem tsame_end{L M:List Tm}(hl:L.length=M.length)(h:L.take L.length=M.take L.length):L=M:=by
 rw[List.take_of_length_le (Nat.le_refl _),List.take_of_length_le (by omega)] at h
 exact h
set_option maxRecDepth 100000 in
set_option maxHeartbeats 4000000 in
theorem tsame_any(A B:Option Addr)(n c m d:Nat)(L M:List Tm)(w:World)(hA:RdR tmC 2 w w.heap.size A n L)(hB:RdR tmC 2 w w.heap.size B m M)(hn:n≤1000000)(hm:m≤1000000) :
  Calls Tryz.prog 99 #[.slice A n c,.slice B m d] w fun e w'=>e=.returned (.bool (decide (L=M)))∧∃q,w'=w.drewN q:=by
 have hl:=hA.1
 have hk:=hB.1
 have HL:=Lib.hid hl;have HK:=Lib.hid hk;clear hl hk
 obtain⟨r,hr⟩:∃r,decide (L=M)=r:=⟨_,rfl⟩
 rw[hr]
 have HR:=Lib.hid hr;clear hr
 by_cases hnm:n=m
 ·subst hnm
  have d0:((n:Int)==(n:Int))=true:=by simp
  have d1:((n:Int) !=(n:Int))=false:=by simp
  go_enter Tryz.func99,Tryz.ntmps99
  go_wp2_with fail
  go_loopw [5] (fun i wr=>∃k q:Nat,i=.int .i64 k∧k≤n∧wr=w.drewN q∧L.take k=M.take k) (fun i _=>n-(intOf i).toNat)
  case atStart=>exact⟨0,0,rfl,Nat.zero_le _,rfl,rfl⟩
  case round =>
   obtain⟨k,q,rfl,hkn,rfl,heq⟩:=hrel
   have HEQ:=Lib.hid heq;clear heq
   by_cases hlt:k<n
   ·have d2:decide ((k:Int)<(n:Int))=true:=by simp;omega
    have b1:(0:Int)≤(k:Int):=by omega
    have b2:(k:Int)<(n:Int):=by omega
    obtain⟨ba,oa,rfl,_,x0,x1⟩:=hA.tmE hlt
    obtain⟨bb,ob,rfl,_,y0,y1⟩:=hB.tmE hlt
    obtain⟨a1,a2,hx⟩:∃a b,tmAt L k=(a,b):=⟨_,_,rfl⟩
    obtain⟨b1',b2',hy⟩:∃a b,tmAt M k=(a,b):=⟨_,_,rfl⟩
    rw[hx] at x0 x1
    rw[hy] at y0 y1
    simp only at x0 x1 y0 y1
    have HX:=Lib.hid hx;have HY:=Lib.hid hy;clear hx hy
    have qe:=fun w:World=>run_tm_eq a1 a2 b1' b2' w
    by_cases he:(a1,a2)=(b1',b2')
    ·rw[decide_eq_true he] at qe
     have HE:=Lib.hid he;clear he
     go_wp2_with fail
     go_quiet (fail)
     go_wp2_with fail
     go_roundw
     case rel=>exact⟨k+1,q+nq,by go_num,by omega,by simp[World.drewN,Nat.add_assoc],tsame_next (by rw[HL.out];omega) (by rw[HK.out];omega) HEQ.out (by rw[HX.out,HY.out];exact HE.out)⟩
     case measure=>simp[intOf];omega
    rw[decide_eq_false he] at qe
    have HE:=Lib.hid he;clear he
    go_wp2_with fail
    go_quiet (fail)
    go_wp2_with fail
    go_ret
    refine⟨?_,q+nq,by simp[World.drewN,Nat.add_assoc]⟩
    have:r=false:=by
     rw[←HR.out,decide_eq_false_iff_not]
     exact tsame_not (by rw[HL.out];omega) (by rw[HK.out];omega) (by rw[HX.out,HY.out];exact HE.out)
    rw[this];rfl
   have d2:decide ((k:Int)<(n:Int))=false:=by simp;omega
   obtain rfl:k=n:=by omega
   go_wp2_with fail
   go_ret
   refine⟨?_,_,rfl⟩
   have:r=true:=by
    rw[←HR.out,decide_eq_true_eq]
    exact tsame_end (by rw[HL.out,HK.out]) (by rw[HL.out];exact HEQ.out)
   rw[this];rfl
 have d0:((n:Int)==(m:Int))=false:=by simp;omega
 have d1:((n:Int) !=(m:Int))=true:=by simp;omega
 have:r=false:=by
  rw[←HR.out,decide_eq_false_iff_not]
  intro e
  have:=HL.out;have:=HK.out
  rw[e] at *
  omega
 subst this
 go_enter Tryz.func99,Tryz.ntmps99
 go_wp2_with fail
 go_ret
 exact⟨rfl,0,rfl⟩
def ntAt(L:List Nt)(k:Nat):Nt:=L.getD k (0,0)
theorem ntAt_eq{L:List Nt}{k:Nat}(h:k<L.length):ntAt L k=L[k]:=by simp[ntAt,List.getD,h]
theorem RdR.ntE{w:World}{B n k:Nat}{A:Option Addr}{L:List Nt}(h:RdR ntC 2 w B A n L)(hk:k<n):∃b off,A=some ⟨b,off,none⟩∧b<B∧w.cell? ⟨b,off+k*2,none⟩=some (.int .u32 ((ntAt L k).1:Int))∧w.cell? ⟨b,off+k*2+1,none⟩=some (.int .i64 (ntAt L k).2):=by
 obtain⟨hl,h⟩:=h
 obtain⟨b,off,h1,h2,h3⟩:=h (by omega)
 rw[ntAt_eq (by omega)]
 exact⟨b,off,h1,h2,h3 k (by omega) 0 _ rfl,h3 k (by omega) 1 _ rfl⟩
theorem nsame_next{L M:List Nt}{k:Nat}(hL:k<L.length)(hM:k<M.length)(h:L.take k=M.take k)(he:ntAt L k=ntAt M k):L.take (k+1)=M.take (k+1):=by
 rw[List.take_succ_eq_append_getElem hL,List.take_succ_eq_append_getElem hM,h,←ntAt_eq hL,←ntAt_eq hM,he]
theorem nsame_not{L M:List Nt}{k:Nat}(hL:k<L.length)(hM:k<M.length)(he:ntAt L k≠ntAt M k):L≠M:=fun e=>he (by rw[e])
theorem nsame_end{L M:List Nt}(hl:L.length=M.length)(h:L.take L.length=M.take L.length):L=M:=by
 rw[List.take_of_length_le (Nat.le_refl _),List.take_of_length_le (by omega)] at h
 exact h
set_option maxRecDepth 100000 in
set_option maxHeartbeats 4000000 in
theorem nsame_any(A B:Option Addr)(n c m d:Nat)(L M:List Nt)(w:World)(hA:RdR ntC 2 w w.heap.size A n L)(hB:RdR ntC 2 w w.heap.size B m M)(hn:n≤1000000)(hm:m≤1000000) :
  Calls Tryz.prog 100 #[.slice A n c,.slice B m d] w fun e w'=>e=.returned (.bool (decide (L=M)))∧∃q,w'=w.drewN q:=by
 have hl:=hA.1
 have hk:=hB.1
 have HL:=Lib.hid hl;have HK:=Lib.hid hk;clear hl hk
 obtain⟨r,hr⟩:∃r,decide (L=M)=r:=⟨_,rfl⟩
 rw[hr]
 have HR:=Lib.hid hr;clear hr
 by_cases hnm:n=m
 ·subst hnm
  have d0:((n:Int)==(n:Int))=true:=by simp
  have d1:((n:Int) !=(n:Int))=false:=by simp
  go_enter Tryz.func100,Tryz.ntmps100
  go_wp2_with fail
  go_loopw [5] (fun i wr=>∃k q:Nat,i=.int .i64 k∧k≤n∧wr=w.drewN q∧L.take k=M.take k) (fun i _=>n-(intOf i).toNat)
  case atStart=>exact⟨0,0,rfl,Nat.zero_le _,rfl,rfl⟩
  case round =>
   obtain⟨k,q,rfl,hkn,rfl,heq⟩:=hrel
   have HEQ:=Lib.hid heq;clear heq
   by_cases hlt:k<n
   ·have d2:decide ((k:Int)<(n:Int))=true:=by simp;omega
    have b1:(0:Int)≤(k:Int):=by omega
    have b2:(k:Int)<(n:Int):=by omega
    obtain⟨ba,oa,rfl,_,x0,x1⟩:=hA.ntE hlt
    obtain⟨bb,ob,rfl,_,y0,y1⟩:=hB.ntE hlt
    obtain⟨a1,a2,hx⟩:∃a b,ntAt L k=(a,b):=⟨_,_,rfl⟩
    obtain⟨b1',b2',hy⟩:∃a b,ntAt M k=(a,b):=⟨_,_,rfl⟩
    rw[hx] at x0 x1
    rw[hy] at y0 y1
    simp only at x0 x1 y0 y1
    have HX:=Lib.hid hx;have HY:=Lib.hid hy;clear hx hy
    have qe:=fun w:World=>run_nt_eq a1 a2 b1' b2' w
    by_cases he:(a1,a2)=(b1',b2')
    ·rw[decide_eq_true he] at qe
     have HE:=Lib.hid he;clear he
     go_wp2_with fail
     go_quiet (fail)
     go_wp2_with fail
     go_roundw
     case rel=>exact⟨k+1,q+nq,by go_num,by omega,by simp[World.drewN,Nat.add_assoc],nsame_next (by rw[HL.out];omega) (by rw[HK.out];omega) HEQ.out (by rw[HX.out,HY.out];exact HE.out)⟩
     case measure=>simp[intOf];omega
    rw[decide_eq_false he] at qe
    have HE:=Lib.hid he;clear he
    go_wp2_with fail
    go_quiet (fail)
    go_wp2_with fail
    go_ret
    refine⟨?_,q+nq,by simp[World.drewN,Nat.add_assoc]⟩
    have:r=false:=by
     rw[←HR.out,decide_eq_false_iff_not]
     exact nsame_not (by rw[HL.out];omega) (by rw[HK.out];omega) (by rw[HX.out,HY.out];exact HE.out)
    rw[this];rfl
   have d2:decide ((k:Int)<(n:Int))=false:=by simp;omega
   obtain rfl:k=n:=by omega
   go_wp2_with fail
   go_ret
   refine⟨?_,_,rfl⟩
   have:r=true:=by
    rw[←HR.out,decide_eq_true_eq]
    exact nsame_end (by rw[HL.out,HK.out]) (by rw[HL.out];exact HEQ.out)
   rw[this];rfl
 have d0:((n:Int)==(m:Int))=false:=by simp;omega
 have d1:((n:Int) !=(m:Int))=true:=by simp;omega
 have:r=false:=by
  rw[←HR.out,decide_eq_false_iff_not]
  intro e
  have:=HL.out;have:=HK.out
  rw[e] at *
  omega
 subst this
 go_enter Tryz.func100,Tryz.ntmps100
 go_wp2_with fail
 go_ret
 exact⟨rfl,0,rfl⟩
end Go.Proofs.YtpcdmbajfmnoiaaGreatDoor
