/- match.May, MayAll, policy.rows, addr.MayPort. Conditions: sizes. Printed by gen_pmay.py. match.MayAll, policy.rows, addr.MayPort, the parts of a policy that lie in memory. Conditions: sizes. policy.Seventh, policy.source. Conditions: sizes; nets of the machine's numbers. -/
import Derived.Test.YtpcdmbajfmnoiaaGreatDoorPolFind
import Derived.Test.YtpcdmbajfmnoiaaGreatDoorLabel
import Derived.IntWalk
namespace Go.Proofs.YtpcdmbajfmnoiaaGreatDoor
set_option linter.unusedVariables false
set_option linter.unusedSimpArgs false
open Go.RowKit Go.Sort
def okC(c:Nat):Bool:= !(decide (c<33)||(decide (126<c)||(decide (c=42)||decide (c=44))))
theorem okC_of(c:UInt8):chOk c=okC c.toNat:=rfl
theorem okC_yes{c:Nat}(h1:¬c<33)(h2:¬126<c)(h3:¬c=42)(h4:¬c=44):okC c=true:=by
 simp[okC,h1,h2,h3,h4]
theorem okC_no{c:Nat}(h:c<33∨126<c∨c=42∨c=44):okC c=false:=by
 unfold okC
 rcases h with h|h|h|h<;>simp[h]
theorem tm_no{K:Int}{l:List UInt8}{i:Nat}(hi:i<l.length)(h:okC (at8 l i).toNat=false):tmMay (K,l)=false:=by
 have e:l.all chOk=false:=by
  rw[List.all_eq_false]
  refine⟨at8 l i,?_,?_⟩
  ·simp[at8,List.getD,hi]
  rw[okC_of,h];simp
 unfold tmMay
 simp only[e,Bool.false_and]
theorem tm_yes{K:Int}{l:List UInt8}(h:∀i,i<l.length→okC (at8 l i).toNat=true):tmMay (K,l)=(if K=4 then l.isEmpty else decide (1≤K)&&(decide (K≤3)&&(decide (1≤l.length)&&decide (l.length≤64)))):=by
 have e:l.all chOk=true:=by
  rw[List.all_eq_true]
  intro x hx
  obtain⟨i,hi,rfl⟩:=List.getElem_of_mem hx
  have:=h i hi
  rw[okC_of]
  simpa [at8,List.getD,hi] using this
 unfold tmMay
 simp only[e,Bool.true_and]
theorem ret_bool{a b:Bool}(h:b=a):Ending.returned (.bool a)=.returned (.bool b):=by rw[h]
set_option maxRecDepth 100000 in
set_option maxHeartbeats 2000000 in
theorem tMay_any(K:Int)(l:List UInt8)(w:World)(hl:l.length≤9223372036854775807) :
  Calls Tryz.prog 123 #[.agg #[.int .i64 K,.string (strB l)]] w fun e w'=>e=.returned (.bool (tmMay (K,l)))∧Below w.heap.size w w':=by
 obtain⟨r,hr⟩:∃r,tmMay (K,l)=r:=⟨_,rfl⟩
 rw[hr]
 have HR:=Lib.hid hr;clear hr
 have hsz:=strB_size l
 obtain⟨w1,hw1⟩:∃w1,w.alloc (.cells #[.int .i64 K,.string (strB l)] 42)=w1:=⟨_,rfl⟩
 have f0:Below w.heap.size w w1:=by rw[←hw1];exact (Below.refl _ _).alloc (Nat.le_refl _) _
 have e0:w1.cell? ⟨w.heap.size,0,none⟩=some (.int .i64 K):=by rw[←hw1];exact (Blk.newAt rfl _ #[.int .i64 K,.string (strB l)]).cell 0
 have e1:w1.cell? ⟨w.heap.size,1,none⟩=some (.string (strB l)):=by rw[←hw1];exact (Blk.newAt rfl _ #[.int .i64 K,.string (strB l)]).cell 1
 generalize hs:strB l=s at *
 have hat:∀k (h:k<s.size),(s[k]'h).toNat=(at8 l k).toNat:=by subst hs;exact strB_at l
 have Hs:=Lib.hid hs
 have Hat:=Lib.hid hat
 clear hs hat
 obtain⟨em,hem⟩:∃em,l.isEmpty=em:=⟨_,rfl⟩
 have Hem:=Lib.hid hem;clear hem
 generalize hn:l.length=n at *
 have Hn:=Lib.hid hn
 clear hn
 go_enter Tryz.func123,Tryz.ntmps123
 go_wp2_with fail
 clear hw1
 go_loopw [3,4] (fun i _ wr=>∃k:Nat,k≤n∧i=.int .i64 k∧wr=w1∧(∀j,j<k→okC (at8 l j).toNat=true)) (fun i _ _=>n-(intOf i).toNat)
 case atStart=>exact⟨0,by omega,rfl,rfl,fun j hj=>absurd hj (by omega)⟩
 case round =>
  obtain⟨k,hk,rfl,rfl,hok⟩:=hrel
  have Hok:=Lib.hid hok
  clear hok
  by_cases hlt:k<n
  ·have d5:decide ((k:Int)<(n:Int))=true:=by simp;omega
   have b1:(0:Int)≤(k:Int):=by omega
   have b2:(k:Int)<(n:Int):=by omega
   have qk:(s[k]'(by omega)).toNat=(at8 l k).toNat:=Hat.out k (by omega)
   generalize hC:(at8 l k).toNat=C at *
   have HC:=Lib.hid hC
   clear hC
   by_cases h1:C<33
   ·have d6:decide ((C:Int)<33)=true:=by simp;omega
    have hno:=Lib.hid (tm_no (K:=K) (l:=l) (i:=k) (by rw[Hn.out];omega) (by rw[HC.out];exact okC_no (by omega)))
    rw[HR.out] at hno
    go_wp2_with fail
    go_ret
    exact⟨by rw[hno.out];rfl,f0⟩
   have d6:decide ((C:Int)<33)=false:=by simp;omega
   by_cases h2:126<C
   ·have d7:decide ((126:Int)<(C:Int))=true:=by simp;omega
    have hno:=Lib.hid (tm_no (K:=K) (l:=l) (i:=k) (by rw[Hn.out];omega) (by rw[HC.out];exact okC_no (by omega)))
    rw[HR.out] at hno
    go_wp2_with fail
    go_ret
    exact⟨by rw[hno.out];rfl,f0⟩
   have d7:decide ((126:Int)<(C:Int))=false:=by simp;omega
   by_cases h3:C=42
   ·have d8:((C:Int)==42)=true:=by simp;omega
    have H3:=Lib.hid h3;clear h3
    have hno:=Lib.hid (tm_no (K:=K) (l:=l) (i:=k) (by rw[Hn.out];omega) (by rw[HC.out];exact okC_no (.inr (.inr (.inl H3.out)))))
    rw[HR.out] at hno
    go_wp2_with fail
    go_ret
    exact⟨by rw[hno.out];rfl,f0⟩
   have d8:((C:Int)==42)=false:=by simp;omega
   by_cases h4:C=44
   ·have d9:((C:Int)==44)=true:=by simp;omega
    have H4:=Lib.hid h4;clear h4
    have hno:=Lib.hid (tm_no (K:=K) (l:=l) (i:=k) (by rw[Hn.out];omega) (by rw[HC.out];exact okC_no (.inr (.inr (.inr H4.out)))))
    rw[HR.out] at hno
    go_wp2_with fail
    go_ret
    exact⟨by rw[hno.out];rfl,f0⟩
   have d9:((C:Int)==44)=false:=by simp;omega
   go_wp2_with fail
   go_roundw
   case rel =>
    refine⟨k+1,by omega,by go_num,by trivial,fun j hj=>?_⟩
    by_cases hjk:j=k
    ·subst hjk;rw[HC.out];exact okC_yes h1 h2 h3 h4
    exact Hok.out j (by omega)
   case measure=>simp[intOf];omega
  have d5:decide ((k:Int)<(n:Int))=false:=by simp;omega
  obtain rfl:k=n:=by omega
  have hy:=tm_yes (K:=K) (l:=l) (fun i hi=>Hok.out i (by rw[Hn.out] at hi;exact hi))
  rw[HR.out,Hn.out] at hy
  have HY:=Lib.hid hy;clear hy
  by_cases h1:K=4
  ·have g1:(K==4)=true:=by simp[h1]
   have H1:=Lib.hid h1;clear h1
   go_wp2_with fail
   go_ret
   exact⟨ret_bool (by rw[HY.out,if_pos H1.out,←Hs.out,strB_toList]),f0⟩
  have g1:(K==4)=false:=by simp[h1]
  have H1:=Lib.hid h1;clear h1
  have HZ:=Lib.hid (HY.out.trans (if_neg H1.out));clear HY
  by_cases k1:1≤K
  ·have g2:decide (1≤K)=true:=decide_eq_true k1
   by_cases k2:K≤3
   ·have g3:decide (K≤3)=true:=decide_eq_true k2
    by_cases k3:1≤k
    ·have g4:decide ((1:Int)≤(k:Int))=true:=by simp;omega
     by_cases k4:k≤64
     ·have g5:decide ((k:Int)≤64)=true:=by simp;omega
      go_wp2_with fail
      go_ret
      exact⟨ret_bool (by rw[HZ.out];simp[k1,k2,k3,k4]),f0⟩
     have g5:decide ((k:Int)≤64)=false:=by simp;omega
     go_wp2_with fail
     go_ret
     exact⟨ret_bool (by rw[HZ.out];simp[k4]),f0⟩
    have g4:decide ((1:Int)≤(k:Int))=false:=by simp;omega
    go_wp2_with fail
    go_ret
    exact⟨ret_bool (by rw[HZ.out,decide_eq_false (show ¬1≤k by omega)];simp),f0⟩
   have g3:decide (K≤3)=false:=decide_eq_false k2
   go_wp2_with fail
   go_ret
   exact⟨ret_bool (by rw[HZ.out,decide_eq_false (show ¬K≤3 by omega)];simp),f0⟩
  have g2:decide (1≤K)=false:=decide_eq_false k1
  go_wp2_with fail
  go_ret
  exact⟨ret_bool (by rw[HZ.out,decide_eq_false (show ¬1≤K by omega)];simp),f0⟩
section
variable {α:Type} {f:α→Bool} {L:List α} {n j:Nat}
def prL(f:α→Bool)(L:List α)(j:Nat):Bool:=match L[j]? with
 | some x=>f x
 | none=>false
theorem prL_at(h:j<L.length):prL f L j=f L[j]:=by
 unfold prL
 rw[List.getElem?_eq_getElem h]
theorem any_prL(h:L.length=n):L.any f=true↔∃k,k<n∧prL f L k=true:=by
 rw[List.any_eq_true]
 constructor
 ·rintro ⟨x,hx,hf⟩
  obtain⟨k,hk,rfl⟩:=List.getElem_of_mem hx
  exact⟨k,by omega,by rw[prL_at hk];exact hf⟩
 rintro ⟨k,hk,hf⟩
 rw[prL_at (by omega)] at hf
 exact⟨_,List.getElem_mem _,hf⟩
theorem all_prL(h:L.length=n):L.all f=true↔∀k,k<n→prL f L k=true:=by
 rw[List.all_eq_true]
 constructor
 ·intro hf k hk
  rw[prL_at (by omega)]
  exact hf _ (List.getElem_mem _)
 intro hf x hx
 obtain⟨k,hk,rfl⟩:=List.getElem_of_mem hx
 have:=hf k (by omega)
 rwa [prL_at hk] at this
theorem any_not(f:α→Bool)(L:List α):(!L.any fun x=> !f x)=L.all f:=by
 induction L with
 | nil=>rfl
 | cons x L ih=>rw[List.any_cons,List.all_cons,←ih];cases f x<;>simp
end
def okS(l:List UInt8):Prop:=l.length≤1000000
def okT(t:Tm):Prop:=okS t.2
def okTs(L:List Tm):Prop:=L.length≤1000000∧∀t∈L,okT t
set_option maxRecDepth 100000 in
set_option maxHeartbeats 2000000 in
theorem notTerm_any(K:Int)(l:List UInt8)(w:World)(hl:okS l) :
  Calls Tryz.prog 181 #[.agg #[.int .i64 K,.string (strB l)]] w fun e w'=>e=.returned (.bool (!tmMay (K,l)))∧Below w.heap.size w w':=by
 unfold okS at hl
 have hm:=fun w=>tMay_any K l w (by omega)
 generalize tmMay (K,l)=r at *
 go_enter Tryz.func181,Tryz.ntmps181
 go_wp2_with fail
 refine (hm _).mono ?_
 rintro e w2 ⟨rfl,f2⟩
 have f3:=((Below.refl _ w).alloc (Nat.le_refl _) _).trans (f2.mono (by simp))
 go_wp2_with fail
 go_ret
 exact⟨rfl,f3⟩
set_option maxRecDepth 100000 in
set_option maxHeartbeats 2000000 in
theorem mayAll_any(A:Option Addr)(n c:Nat)(L:List Tm)(w:World)(h:RdR tmC 2 w w.heap.size A n L)(hok:okTs L) :
  Calls Tryz.prog 145 #[.slice A n c] w fun e w'=>e=.returned (.bool (allMay L))∧Below w.heap.size w w':=by
 have hl:=h.1
 obtain⟨r,hr⟩:∃r,allMay L=r:=⟨_,rfl⟩
 rw[hr]
 by_cases hm:n≤6
 ·have d1:decide ((n:Int)≤6)=true:=by simp;omega
  have hh:=has_Term A n c (prL (fun t=> !tmMay t) L) w (by omega) (fun w' hb j hj=>by
   obtain⟨b,off,h1,h2,h3⟩:=(h.below hb).2 (by omega)
   have hj':j<L.length:=by omega
   refine⟨b,off,L[j].1,L[j].2,h1,h3 j hj' 0 _ rfl,h3 j hj' 1 _ rfl,?_⟩
   rw[prL_at hj']
   exact notTerm_any _ _ _ (hok.2 _ (List.getElem_mem _))) (any_prL hl)
  have hq:r= !(L.any fun t=> !tmMay t):=by
   rw[←hr,any_not]
   unfold allMay
   rw[decide_eq_true (show L.length≤6 by omega),Bool.true_and]
  generalize (L.any fun t=> !tmMay t)=p at *
  have HQ:=Lib.hid hq
  clear h hok hr hq
  go_enter Tryz.func145,Tryz.ntmps145
  go_wp2_with fail
  refine hh.mono ?_
  rintro e w2 ⟨rfl,f2⟩
  cases p
  all_goals
   go_wp2_with fail
   go_ret
   exact⟨by rw[HQ.out];rfl,f2⟩
 have d1:decide ((n:Int)≤6)=false:=by simp;omega
 obtain rfl:r=false:=by
  rw[←hr]
  unfold allMay
  rw[decide_eq_false (show ¬L.length≤6 by omega),Bool.false_and]
 go_enter Tryz.func145,Tryz.ntmps145
 go_wp2_with fail
 go_ret
 exact⟨rfl,Below.refl _ _⟩
set_option maxRecDepth 100000 in
set_option maxHeartbeats 2000000 in
theorem notRow_any(A:Option Addr)(n c:Nat)(L:List Tm)(w:World)(h:RdR tmC 2 w w.heap.size A n L)(hok:okTs L) :
  Calls Tryz.prog 144 #[.slice A n c] w fun e w'=>e=.returned (.bool (!allMay L))∧Below w.heap.size w w':=by
 have hm:=mayAll_any A n c L w h hok
 generalize allMay L=r at *
 clear h hok
 go_enter Tryz.func144,Tryz.ntmps144
 go_wp2_with fail
 refine hm.mono ?_
 rintro e w2 ⟨rfl,f2⟩
 go_wp2_with fail
 go_ret
 exact⟨rfl,f2⟩
def RowP(w:World)(B:Nat)(cs:List Value)(x:List Tm):Prop:=∃v,cs=[v]∧RvT w B v x
theorem RowP.mono{w w':World}{B B':Nat}{cs:List Value}{x:List Tm}(h:RowP w B cs x)(hB:B≤B')(hb:Below B w w'):RowP w' B' cs x:=by
 obtain⟨v,e,h1⟩:=h
 exact⟨v,e,h1.mono hB hb⟩
theorem rows_new{w:World}{vs:List Value}{R:List (List Tm)}(ty:Nat)(hl:R.length=vs.length)(h:∀j (hj:j<R.length),RvT w w.heap.size (vs[j]'(by omega)) R[j]) :
  RdG 1 RowP (w.alloc (.cells vs.toArray ty)) (w.alloc (.cells vs.toArray ty)).heap.size (some ⟨w.heap.size,0,none⟩) vs.length R:=by
 refine⟨hl,fun _=>⟨w.heap.size,0,rfl,by simp,fun j hj=>⟨[vs[j]'(by omega)],rfl,⟨_,rfl,(h j hj).mono (by simp) ((Below.refl _ w).alloc (Nat.le_refl _) _)⟩,fun i v hv=>?_⟩⟩⟩
 rcases i with _|i
 ·have k:=(Blk.newAt (w:=w) rfl ty vs.toArray).cell j
  simp only[Nat.zero_add,Nat.mul_one,Nat.add_zero]
  rw[k]
  simp at hv
  rw[←hv]
  simp
 simp at hv
set_option maxRecDepth 100000 in
set_option maxHeartbeats 2000000 in
theorem rows_any(A:Option Addr)(n c:Nat)(R:List (List Tm))(w:World)(hn:n≤1000000)(h:RdG 1 RowP w w.heap.size A n R)(hok:∀L∈R,okTs L) :
  Calls Tryz.prog 104 #[.slice A n c] w fun e w'=>e=.returned (.bool (rowsMay R))∧Below w.heap.size w w':=by
 have hl:=h.1
 have hh:=has_Terms A n c (prL (fun t=> !allMay t) R) w hn (fun w' hb j hj=>by
  obtain⟨b,off,cs,h1,h2,h3,⟨v,rfl,A1,n1,c1,rfl,h4,h5,h6⟩,h7⟩:=(h.mono (Nat.le_refl _) hb fun _ _ h=>h.mono (Nat.le_refl _) hb).at_ hj
  have hj':j<R.length:=by omega
  refine⟨b,off,A1,n1,c1,h1,?_,?_⟩
  ·have:=h7 0 _ rfl
   rw[Nat.mul_one] at this
   exact this
  rw[prL_at hj']
  exact notRow_any _ _ _ _ _ (h6.more hb.size) (hok _ (List.getElem_mem _))) (any_prL hl)
 have hq:rowsMay R= !(R.any fun t=> !allMay t):=by rw[any_not];rfl
 generalize (R.any fun t=> !allMay t)=p at *
 rw[hq]
 clear h hok hq
 go_enter Tryz.func104,Tryz.ntmps104
 go_wp2_with fail
 refine hh.mono ?_
 rintro e w2 ⟨rfl,f2⟩
 go_wp2_with fail
 go_ret
 exact⟨rfl,f2⟩
set_option maxRecDepth 100000 in
theorem mayPort_any(n:Int)(w:World):Calls Tryz.prog 111 #[.int .i64 n] w fun e w'=>e=.returned (.bool (portMay n))∧Below w.heap.size w w':=by
 unfold portMay
 go_enter Tryz.func111,Tryz.ntmps111
 by_cases h1:1≤n
 ·have d1:decide (1≤n)=true:=decide_eq_true h1
  by_cases h2:n≤65535
  ·have d2:decide (n≤65535)=true:=decide_eq_true h2
   go_wp2_with fail
   go_ret
   exact⟨by rw[d1,d2];rfl,Below.refl _ _⟩
  have d2:decide (n≤65535)=false:=decide_eq_false h2
  go_wp2_with fail
  go_ret
  exact⟨rfl,Below.refl _ _⟩
 have d1:decide (1≤n)=false:=decide_eq_false h1
 go_wp2_with fail
 go_ret
 exact⟨rfl,Below.refl _ _⟩
def okNets(L:List Nt):Prop:=L.length≤1000000∧∀c∈L,okN c
def okInts(L:List Int):Prop:=L.length≤1000000∧∀x∈L,-9223372036854775808≤x∧x≤9223372036854775807
def okSr(s:Sr):Prop:=okTs s.names∧okTs s.spaces∧okNets s.nets
def okTg(t:Tg):Prop:=okInts t.ports∧okTs t.methods∧okTs t.paths∧okTs t.hosts
def okWn(x:Wn):Prop:=okS x.head∧okTs x.terms
def okRu(r:Ru):Prop:=(r.froms.length≤1000000∧∀s∈r.froms,okSr s)∧(r.tos.length≤1000000∧∀t∈r.tos,okTg t)∧(r.whens.length≤1000000∧∀x∈r.whens,okWn x)
def okPo(p:Po):Prop:=p.id<18446744073709551616∧okS p.ns∧p.service<18446744073709551616∧(-9223372036854775808≤p.deny∧p.deny≤9223372036854775807)∧(p.rules.length≤1000000∧∀r∈p.rules,okRu r)
theorem vals_tg{w:World}{B:Nat}{cs:List Value}{t:Tg}(h:TgP w B cs t):∃A1 n1 c1 A2 n2 c2 A3 n3 c3 A4 n4 c4,cs=[.slice A1 n1 c1,.slice A2 n2 c2,.slice A3 n3 c3,.slice A4 n4 c4]∧RdR inC 1 w B A1 n1 t.ports∧RdR tmC 2 w B A2 n2 t.methods∧RdR tmC 2 w B A3 n3 t.paths∧RdR tmC 2 w B A4 n4 t.hosts:=by
 obtain⟨_,_,_,_,rfl,⟨A1,n1,c1,rfl,_,_,h1⟩,⟨A2,n2,c2,rfl,_,_,h2⟩,⟨A3,n3,c3,rfl,_,_,h3⟩,⟨A4,n4,c4,rfl,_,_,h4⟩⟩:=h
 exact⟨A1,n1,c1,A2,n2,c2,A3,n3,c3,A4,n4,c4,rfl,h1,h2,h3,h4⟩
theorem vals_sr{w:World}{B:Nat}{cs:List Value}{s:Sr}(h:SrP w B cs s):∃A1 n1 c1 A2 n2 c2 A3 n3 c3,cs=[.slice A1 n1 c1,.slice A2 n2 c2,.slice A3 n3 c3]∧RdR tmC 2 w B A1 n1 s.names∧RdR tmC 2 w B A2 n2 s.spaces∧RdR ntC 2 w B A3 n3 s.nets:=by
 obtain⟨_,_,_,rfl,⟨A1,n1,c1,rfl,_,_,h1⟩,⟨A2,n2,c2,rfl,_,_,h2⟩,⟨A3,n3,c3,rfl,_,_,h3⟩⟩:=h
 exact⟨A1,n1,c1,A2,n2,c2,A3,n3,c3,rfl,h1,h2,h3⟩
theorem vals_wn{w:World}{B:Nat}{cs:List Value}{x:Wn}(h:WnP w B cs x):∃A n c,cs=[.string (strB x.head),.slice A n c]∧RdR tmC 2 w B A n x.terms:=by
 obtain⟨_,rfl,⟨A,n,c,rfl,_,_,h1⟩⟩:=h
 exact⟨A,n,c,rfl,h1⟩
theorem vals_ru{w:World}{B:Nat}{cs:List Value}{r:Ru}(h:RuP w B cs r):∃A1 n1 c1 A2 n2 c2 A3 n3 c3,cs=[.slice A1 n1 c1,.slice A2 n2 c2,.slice A3 n3 c3]∧RdG 3 SrP w B A1 n1 r.froms∧RdG 4 TgP w B A2 n2 r.tos∧RdG 2 WnP w B A3 n3 r.whens:=by
 obtain⟨_,_,_,rfl,⟨A1,n1,c1,rfl,_,_,h1⟩,⟨A2,n2,c2,rfl,_,_,h2⟩,⟨A3,n3,c3,rfl,_,_,h3⟩⟩:=h
 exact⟨A1,n1,c1,A2,n2,c2,A3,n3,c3,rfl,h1,h2,h3⟩
set_option maxRecDepth 100000 in
set_option maxHeartbeats 2000000 in
theorem source_any(s:Sr)(cs:List Value)(w:World)(h:SrP w w.heap.size cs s)(hok:okSr s) :
  Calls Tryz.prog 66 #[.agg cs.toArray] w fun e w'=>e=.returned (.bool (srMay s))∧Below w.heap.size w w':=by
 obtain⟨A1,n1,c1,A2,n2,c2,A3,n3,c3,rfl,h1,h2,h3⟩:=vals_sr h
 obtain⟨v1,v2,v3,hv,t1,t2,t3⟩:=h
 obtain⟨k1,k2,k3⟩:=hok
 have l3:=h3.1
 obtain⟨p,hp⟩:∃p,rowsMay [s.names,s.spaces]=p:=⟨_,rfl⟩
 obtain⟨q,hq⟩:∃q,(decide (s.nets.length≤6)&&s.nets.all nMay)=q:=⟨_,rfl⟩
 have he:srMay s=(p&&q):=by rw[←hp,←hq];rfl
 rw[he]
 injection hv with g1 hv
 injection hv with g2 hv
 injection hv with g3 hv
 subst g1 g2 g3
 show Calls Tryz.prog 66 #[.agg #[.slice A1 n1 c1,.slice A2 n2 c2,.slice A3 n3 c3]] w _
 obtain⟨wb,hwb⟩:∃wb,w.alloc (.cells #[.slice A1 n1 c1,.slice A2 n2 c2,.slice A3 n3 c3] 56)=wb:=⟨_,rfl⟩
 have f0:Below w.heap.size w wb:=by rw[←hwb];exact (Below.refl _ _).alloc (Nat.le_refl _) _
 have bl:=Blk.newAt (w:=w) rfl 56 #[.slice A1 n1 c1,.slice A2 n2 c2,.slice A3 n3 c3]
 rw[hwb] at bl
 have e0:wb.cell? ⟨w.heap.size,0,none⟩=some (.slice A1 n1 c1):=bl.cell 0
 have e1:wb.cell? ⟨w.heap.size,1,none⟩=some (.slice A2 n2 c2):=bl.cell 1
 have e2:wb.cell? ⟨w.heap.size,2,none⟩=some (.slice A3 n3 c3):=bl.cell 2
 have hrows:=rows_any (some ⟨wb.heap.size,0,none⟩) 2 2 [s.names,s.spaces] (wb.alloc (.cells #[.slice A1 n1 c1,.slice A2 n2 c2] 43)) (by omega) (rows_new (w:=wb) (vs:=[.slice A1 n1 c1,.slice A2 n2 c2]) (R:=[s.names,s.spaces]) _ rfl (fun j hj=>by
  rcases j with _|_|j
  ·exact t1.mono f0.size f0
  ·exact t2.mono f0.size f0
  ·exact absurd hj (by simp))) (by
  intro L hL
  simp only[List.mem_cons,List.mem_nil_iff,or_false] at hL
  rcases hL with rfl|rfl
  ·exact k1
  exact k2)
 rw[hp] at hrows
 have hnets:∀w2,Below w.heap.size w w2→Calls Tryz.prog 105 #[.int .i64 6,.slice A3 n3 c3,.func (.func 74) #[] #[]] w2 fun e w'=>e=.returned (.bool q)∧Below w2.heap.size w2 w':=fun w2 hb=>all_Cidr A3 n3 c3 (prL nMay s.nets) w2 (fun w' hb' j hj=>by
  obtain⟨b,off,r1,r2,r3⟩:=(h3.below (hb.trans (hb'.mono hb.size))).2 (by omega)
  have hj':j<s.nets.length:=by omega
  refine⟨b,off,_,_,r1,r3 j hj' 0 _ rfl,r3 j hj' 1 _ rfl,fun w'' _=>?_⟩
  rw[prL_at hj']
  refine (may_any _ _ w'' (k3.2 _ (List.getElem_mem hj'))).mono ?_
  rintro e w4 ⟨rfl,f4⟩
  exact⟨rfl,f4.below⟩) (by rw[←hq,Bool.and_eq_true,decide_eq_true_eq,all_prL l3,l3])
 have HN:=Lib.hid hnets
 clear h1 h2 h3 t1 t2 t3 k1 k2 k3 hp hq he hnets hv bl
 go_enter Tryz.func66,Tryz.ntmps66
 go_wp2_with fail
 refine hrows.mono ?_
 rintro e w2 ⟨rfl,f2⟩
 have fa:Below wb.heap.size wb (wb.alloc (.cells #[.slice A1 n1 c1,.slice A2 n2 c2] 43)):=(Below.refl _ _).alloc (Nat.le_refl _) _
 have f3:=fa.trans (f2.mono fa.size)
 have e5:w2.cell? ⟨w.heap.size,2,none⟩=some (.slice A3 n3 c3):=(f3.cell (World.block_lt_of_cell? wb _ e2)).trans e2
 have f4:=f0.trans (f3.mono f0.size)
 cases p
 ·go_wp2_with fail
  go_ret
  exact⟨rfl,f4⟩
 go_wp2_with fail
 refine (HN.out w2 f4).mono ?_
 rintro e w5 ⟨rfl,f5⟩
 have f6:=f4.trans (f5.mono f4.size)
 go_wp2_with fail
 go_ret
 exact⟨by simp,f6⟩
end Go.Proofs.YtpcdmbajfmnoiaaGreatDoor
