/- (The facts may look at the values their operations looked at.) A region whose order is open, gone through BY FACTS: of each operation a fact on what it leaves (in the world of then), shown out of the facts on those whose slots it looks at; facts and the region's own condition S outlast what the others do. No order is named, none is reckoned: whatever order is picked, the end is one. No condition. -/
import Derived.OrdersHeld
import Derived.Tactics
import Derived.Tactics2
import Derived.KernelRfl
import Derived.RegionTactic
namespace Go.Proofs.YtpcdmbajfmnoiaaGreatDoor.F2
set_option linter.unusedVariables false
set_option linter.unusedSimpArgs false
def dstOf(l:List Oper)(j:Nat):Option Tmp:=(l[j]?).bind (·.dst)
def layAt(l:List Oper)(vs:Nat→Value)(a0:Act)(L:List Nat):Act:=L.foldl (fun a j=>a.put (dstOf l j) (vs j)) a0
def bef(l:List Oper)(i:Nat):List Nat:=((l[i]?).map fun o=>(o.after.toList.filter (Region.binds .any)).map (·.on)).getD []
def depOn(D:List (List Nat))(i:Nat):List Nat:=D.getD i []
def looksB(l:List Oper)(i j:Nat):Bool:=(l[i]?).any fun o=>(dstOf l j).any fun d=>(o.looksAt l.toArray).contains d
def factsB(l:List Oper)(D K:List (List Nat)):Bool :=
 Region.noSelect l.toArray&&(List.range l.length).all fun i =>
  (bef l i).all (·<i)&&(depOn D i).all (fun j=>(bef l i).contains j)&&decide (depOn D i).Nodup &&
  (List.range l.length).all (fun j=>j==i||((dstOf l i).all fun d=>dstOf l j !=some d)&&((depOn D i).contains j|| !looksB l i j)) &&
  (depOn K i).all fun j=>(List.range l.length).all fun k=>k==i|| !(depOn D k).contains j||(bef l i).contains k
section
variable {P:Program} {l:List Oper} {Q:Exit→Act→World→Prop} {a0:Act} {S:World→Prop} {F:List (List Value→Value→World→Prop)} {E:World→World→Prop} {D K:List (List Nat)}
def fact(F:List (List Value→Value→World→Prop))(i:Nat):List Value→Value→World→Prop:=F.getD i fun _ _ _=>True
def owed(P:Program)(l:List Oper)(Q:Exit→Act→World→Prop)(a0:Act)(S:World→Prop)(F:List (List Value→Value→World→Prop))(E:World→World→Prop)(D K:List (List Nat))(i:Nat)(o:Oper):Prop :=
 ∀(vs:Nat→Value)(w:World),S w→(∀j,j∈depOn D i→fact F j ((depOn D j).map vs) (vs j) w) →
  ∀N:Act→World→Prop,(∀v w',fact F i ((depOn D i).map vs) v w'→(E w w'∨(S w'∧∀j xs u,j≠i→j∉depOn K i→(bef l j).contains i=false→fact F j xs u w→fact F j xs u w'))→N ((layAt l vs a0 (depOn D i)).put o.dst v) w') →
   if Region.wanted o (yielded l.toArray (layAt l vs a0 (depOn D i)).tmps)=true then o.wp P (layAt l vs a0 (depOn D i)) w N Q else N ((layAt l vs a0 (depOn D i)).put o.dst undef) w
def owedAll(P:Program)(l:List Oper)(Q:Exit→Act→World→Prop)(a0:Act)(S:World→Prop)(F:List (List Value→Value→World→Prop))(E:World→World→Prop)(D K:List (List Nat)):Nat→List Oper→Prop
 | _,[]=>True
 | i,o::r=>owed P l Q a0 S F E D K i o∧owedAll P l Q a0 S F E D K (i+1) r
theorem owed_cons{i:Nat}{o:Oper}{r:List Oper}(h:owed P l Q a0 S F E D K i o)(hr:owedAll P l Q a0 S F E D K (i+1) r):owedAll P l Q a0 S F E D K i (o::r):=⟨h,hr⟩
theorem owed_nil{i:Nat}:owedAll P l Q a0 S F E D K i []:=trivial
theorem owed_at:∀{r:List Oper} {i:Nat},owedAll P l Q a0 S F E D K i r→∀{j:Nat} {o:Oper},r[j]?=some o→owed P l Q a0 S F E D K (i+j) o
 | [],_,_,_,_,h=>by simp at h
 | o'::r,i,hr,0,o,h=>by
  obtain rfl:o'=o:=by simpa using h
  exact hr.1
 | o'::r,i,hr,j+1,o,h=>by
  have:=owed_at hr.2 (j:=j) (o:=o) (by simpa using h)
  rwa [Nat.add_assoc,Nat.add_comm 1 j] at this
theorem layAt_perm{L L':List Nat}{vs:Nat→Value}(hp:L.Perm L')(hd:∀i∈L,∀j∈L,i≠j→∀d,dstOf l i=some d→dstOf l j≠some d):layAt l vs a0 L=layAt l vs a0 L':=by
 refine hp.foldl_eq' (fun x hx y hy z=>?_) a0
 by_cases h:x=y
 ·rw[h]
 exact Act.put_comm z _ _ (hd x hx y hy h)
theorem layAt_append{L:List Nat}{i:Nat}{vs:Nat→Value}:layAt l vs a0 (L++[i])=(layAt l vs a0 L).put (dstOf l i) (vs i):=by simp[layAt]
theorem layAt_congr{vs vs':Nat→Value}:∀{L:List Nat} {a:Act},(∀j∈L,vs j=vs' j)→layAt l vs a L=layAt l vs' a L
 | [],_,_=>rfl
 | j::L,a,h=>by
  show layAt l vs (a.put (dstOf l j) (vs j)) L=layAt l vs' (a.put (dstOf l j) (vs' j)) L
  rw[h j (List.mem_cons_self),layAt_congr fun i hi=>h i (List.mem_cons_of_mem _ hi)]
theorem layAt_look{o:Oper}(hs:∀cs b,o.op≠ .select cs b){vs:Nat→Value}:∀{R:List Nat} {a:Act},(∀j∈R,∀d,dstOf l j=some d→d∉o.looksAt l.toArray) →
  execOp (layAt l vs a R).eval o=execOp a.eval o∧Region.wanted o (yielded l.toArray (layAt l vs a R).tmps)=Region.wanted o (yielded l.toArray a.tmps)
 | [],_,_=>⟨rfl,rfl⟩
 | j::R,a,h=>by
  obtain⟨h1,h2⟩:=layAt_look hs (R:=R) (a:=a.put (dstOf l j) (vs j)) fun i hi=>h i (List.mem_cons_of_mem _ hi)
  have h3:=h j (List.mem_cons_self)
  exact⟨h1.trans (execOp_put o hs a _ _ h3),h2.trans (wanted_put o a _ _ h3)⟩
theorem put_same{a a':Act}{d:Option Tmp}{u v:Value}(hs:a'.tmps.size=a.tmps.size)(h:a.put d u=a.put d v):a'.put d u=a'.put d v:=by
 cases d with
 | none=>rfl
 | some d =>
  by_cases hd:d<a.tmps.size
  ·have:=congrArg (fun b:Act=>b.tmps[d]?) h
   simp[Act.put,hd] at this
   rw[this]
  simp[Act.put,Array.setIfInBounds,hs,hd]
theorem put_size{a:Act}{d:Option Tmp}{v:Value}:(a.put d v).tmps.size=a.tmps.size:=by cases d<;>simp[Act.put]
theorem layAt_size{vs:Nat→Value}:∀{L:List Nat} {a:Act},(layAt l vs a L).tmps.size=a.tmps.size
 | [],_=>rfl
 | j::L,a=>by
  show (layAt l vs (a.put (dstOf l j) (vs j)) L).tmps.size=_
  rw[layAt_size,put_size]
theorem wp_put{o:Oper}{a a':Act}{w:World}{G:Value→World→Prop}{M:Act→World→Prop}(he:execOp a'.eval o=execOp a.eval o)(hz:a'.tmps.size=a.tmps.size)(hQ:∀c w,Q (.panic c) a w→Q (.panic c) a' w)
  (h:o.wp P a w (fun b w'=>b.defers=a.defers∧∃v,G v w'∧b=a.put o.dst v) Q) (hM:∀v w',G v w'→M (a'.put o.dst v) w'):o.wp P a' w M Q:=by
 have put_defers:∀(b:Act) d v,(b.put d v).defers=b.defers:=fun b d v=>by cases d<;>rfl
 have fin:∀u w',(∃v,G v w'∧a.put o.dst u=a.put o.dst v)→M (a'.put o.dst u) w':=fun u w' ⟨v,hg,hv⟩=>by
  rw[put_same hz hv]
  exact hM _ _ hg
 unfold Oper.wp at *
 rw[he]
 generalize (execOp a.eval o).run P w=r at *
 cases r with
 | ok n w' =>
  cases n<;>simp only[Oper.upon] at h ⊢
  case value u=>exact fin u _ h.2
  case skip=>exact fin _ _ h.2
  case defer d =>
   have:=h.1
   rw[put_defers] at this
   exact absurd (congrArg List.length this) (by simp)
  case enter f args =>
   refine Calls.mono h fun e w'' he=>?_
   cases e with
   | returned u=>exact fin u _ he.2
   | panicked c=>exact hQ _ _ he
   | outgrown=>exact he
  case row row args=>exact Rows.mono h fun u w'' he=>fin u _ he.2
 | halt x w' =>
  cases x<;>simp only[Oper.upon] at h ⊢
  case panic u=>exact hQ _ _ h
theorem layAt_panic(hQ:∀c a (s:Tmp) v w,Q (.panic c) a w→Q (.panic c) (a.put (some s) v) w){vs:Nat→Value}{c:List PanicEntry}{w:World}:∀{L:List Nat} {a:Act},Q (.panic c) a w→Q (.panic c) (layAt l vs a L) w
 | [],_,h=>h
 | j::L,a,h=>by
  show Q _ (layAt l vs (a.put (dstOf l j) (vs j)) L) w
  refine layAt_panic hQ ?_
  cases dstOf l j with
  | none=>exact h
  | some d=>exact hQ _ _ _ _ _ h
structure Up(l:List Oper)(a0:Act)(S:World→Prop)(F:List (List Value→Value→World→Prop))(D K:List (List Nat))(L:List Nat)(vs:Nat→Value)(listed:Array Bool)(a:Act)(w:World):Prop where
 act:a=layAt l vs a0 L
 nodup:L.Nodup
 lt:∀j∈L,j<l.length
 shut:∀j∈L,∀i∈bef l j,i∈L
 size:listed.size=l.length
 here:∀j,j<l.length→listed.getD j true=decide (j∈L)
 world:S w
 facts:∀j∈L,(∀i∈L,j∉depOn K i)→fact F j ((depOn D j).map vs) (vs j) w
theorem factsB_spec(h:factsB l D K=true):Region.noSelect l.toArray=true∧∀i,i<l.length→(∀j∈bef l i,j<i)∧(∀j∈depOn D i,j∈bef l i)∧(depOn D i).Nodup ∧
  (∀j,j<l.length→j≠i→(∀d,dstOf l i=some d→dstOf l j≠some d)∧(j∈depOn D i∨looksB l i j=false)) ∧
  ∀j∈depOn K i,∀k,k<l.length→k≠i→j∈depOn D k→k∈bef l i:=by
 simp only[factsB,Bool.and_eq_true,List.all_eq_true,List.mem_range,Bool.or_eq_true,beq_iff_eq,decide_eq_true_eq,List.contains_iff_mem,Bool.not_eq_true',Option.all_eq_true_iff_get] at h
 refine⟨h.1,fun i hi=>?_⟩
 obtain⟨⟨⟨⟨h1,h2⟩,h3⟩,h4⟩,h5⟩:=h.2 i hi
 refine⟨h1,h2,h3,fun j hj hne=>?_,fun j hj k hk hne hjk=>?_⟩
 ·rcases h4 j hj with h6|⟨h6,h7⟩
  ·exact absurd h6 hne
  refine⟨fun d hd=>?_,?_⟩
  ·have:=h6 (by rw[hd];rfl)
   simpa [hd] using this
  exact h7
 rcases h5 j hj k hk with (h6|h6)|h6
 ·exact absurd h6 hne
 ·rw[←Bool.not_eq_true,List.contains_iff_mem] at h6
  exact absurd hjk h6
 exact h6
theorem Up.step{L:List Nat}{vs:Nat→Value}{listed:Array Bool}{a:Act}{w:World}(hB:factsB l D K=true)(hE:∀w w',E w w'→(S w→S w')∧∀j xs u,fact F j xs u w→fact F j xs u w')(hQ:∀c a (s:Tmp) v w,Q (.panic c) a w→Q (.panic c) (a.put (some s) v) w)
  (h:Up l a0 S F D K L vs listed a w) (ho:owedAll P l Q a0 S F E D K 0 l) {i:Nat} (hi:i∈Region.ready .any l.toArray listed) {M:Act→World→Prop}
  (hM:∀vs' a' w',Up l a0 S F D K (L++[i]) vs' (listed.setIfInBounds i true) a' w'→M a' w'):wpOp P l.toArray Q i M a w:=by
 obtain⟨hun,o,hio,hall⟩:=mem_ready.1 hi
 have hil:l[i]?=some o:=by simpa using hio
 have hlt:i<l.length:=(List.getElem?_eq_some_iff.1 hil).1
 obtain⟨hsel,hspec⟩:=factsB_spec hB
 obtain⟨b1,b2,b3,b4,b5⟩:=hspec i hlt
 have hiL:i∉L:=by
  have:=h.here i hlt
  rw[hun] at this
  simpa using this
 have hbef:∀j∈bef l i,j∈L:=by
  intro j hj
  have hj':=b1 j hj
  unfold bef at hj
  rw[hil] at hj
  simp only[Option.map_some,Option.getD_some,List.mem_map,List.mem_filter] at hj
  obtain⟨e,⟨he,hb⟩,rfl⟩:=hj
  have h1:=hall e (by simpa using he) hb
  have h2:=h.here e.on (by omega)
  have h3:e.on<listed.size:=by rw[h.size];omega
  simp[h3] at h1 h2
  rw[h1] at h2
  simpa using h2.symm
 have hsel':∀cs b,o.op≠ .select cs b:=fun cs b=>Region.noSelect_spec hsel i o cs b hio
 let R:=L.filter fun j=> !(depOn D i).contains j
 have hperm:L.Perm (depOn D i++R):=by
  refine ((List.filter_append_perm (fun j=>(depOn D i).contains j) L).symm).trans (List.Perm.append_right _ ?_)
  refine (List.perm_ext_iff_of_nodup (List.Pairwise.filter _ h.nodup) b3).2 fun j=>?_
  simp only[List.mem_filter,List.contains_iff_mem]
  exact⟨fun h=>h.2,fun hj=>⟨hbef j (b2 j hj),hj⟩⟩
 have hdist:∀x∈L,∀y∈L,x≠y→∀d,dstOf l x=some d→dstOf l y≠some d:=fun x hx y hy hne=>((hspec x (h.lt x hx)).2.2.2.1 y (h.lt y hy) (Ne.symm hne)).1
 have hact:a=layAt l vs (layAt l vs a0 (depOn D i)) R:=by
  rw[h.act,layAt_perm hperm hdist]
  simp[layAt,List.foldl_append]
 have hlook:=layAt_look (l:=l) hsel' (vs:=vs) (R:=R) (a:=layAt l vs a0 (depOn D i)) fun j hj d hd=>by
  simp only[R,List.mem_filter,Bool.not_eq_true'] at hj
  have hne:j≠i:=fun e=>hiL (e▸hj.1)
  rcases (b4 j (h.lt j hj.1) hne).2 with h6|h6
  ·rw[←List.contains_iff_mem,hj.2] at h6
   cases h6
  unfold looksB at h6
  rw[hil,hd] at h6
  simp only[Option.any_some] at h6
  rw[←List.contains_iff_mem,h6]
  simp
 rw[←hact] at hlook
 have hsz:a.tmps.size=(layAt l vs a0 (depOn D i)).tmps.size:=by rw[h.act,layAt_size,layAt_size]
 have hf:∀j∈depOn D i,fact F j ((depOn D j).map vs) (vs j) w:=fun j hj=>h.facts j (hbef j (b2 j hj)) fun k hk hjk=>by
  have hne:i≠k:=fun e=>hiL (e▸hk)
  exact hiL (h.shut k hk i ((hspec k (h.lt k hk)).2.2.2.2 j hjk i hlt hne hj))
 have hd0:dstOf l i=o.dst:=by simp[dstOf,hil]
 have how:=owed_at ho hil
 rw[Nat.zero_add] at how
 have fin:∀v w',(fact F i ((depOn D i).map vs) v w'∧(E w w'∨(S w'∧∀j xs u,j≠i→j∉depOn K i→(bef l j).contains i=false→fact F j xs u w→fact F j xs u w')))→M (a.put o.dst v) w':=fun v w' ⟨g1,g2⟩=>by
  refine hM (fun j=>if j=i then v else vs j) _ _ ⟨?_,?_,?_,?_,?_,?_,?_,?_⟩
  ·rw[layAt_append,hd0,h.act,layAt_congr (vs:=fun j=>if j=i then v else vs j) (vs':=vs) (L:=L) fun j hj=>if_neg fun(e:j=i)=>hiL (e▸hj)]
   simp
  ·rw[List.nodup_append]
   exact⟨h.nodup,by simp,fun x hx y hy e=>by simp at hy;exact hiL (hy▸e▸hx)⟩
  ·intro j hj
   rcases List.mem_append.1 hj with hj|hj
   ·exact h.lt j hj
   simp at hj;omega
  ·intro j hj k hk
   refine List.mem_append_left _ ?_
   rcases List.mem_append.1 hj with hj|hj
   ·exact h.shut j hj k hk
   simp at hj;exact hbef k (hj▸hk)
  ·simp[h.size]
  ·intro j hj
   by_cases hji:j=i
   ·subst hji
    simp[h.size,hj]
   have h1:=h.here j hj
   have h3:j<listed.size:=by rw[h.size];omega
   have h4:i≠j:=fun e=>hji e.symm
   simp only[Array.getD_eq_getD_getElem?] at h1 ⊢
   rw[Array.getElem?_setIfInBounds_ne h4,h1]
   simp[hji]
  ·rcases g2 with g2|g2
   ·exact (hE _ _ g2).1 h.world
   exact g2.1
  intro j hj hal
  rcases List.mem_append.1 hj with hj|hj
  ·have hji:j≠i:=fun e=>hiL (e▸hj)
   have h1:=h.facts j hj fun k hk=>hal k (List.mem_append_left _ hk)
   have hm:(depOn D j).map (fun j=>if j=i then v else vs j)=(depOn D j).map vs:=List.map_congr_left fun k hk=>by
    have hkL:=h.shut j hj k ((hspec j (h.lt j hj)).2.1 k hk)
    show (if k=i then v else vs k)=vs k
    exact if_neg fun e:k=i=>hiL (e▸hkL)
   simp only[if_neg hji,hm]
   rcases g2 with g2|g2
   ·exact (hE _ _ g2).2 _ _ _ h1
   exact g2.2 j _ _ hji (hal i (List.mem_append_right _ (by simp))) (by
    rw[Bool.eq_false_iff]
    intro hc
    exact hiL (h.shut j hj i (List.contains_iff_mem.1 hc))) h1
  obtain rfl:j=i:=by simpa using hj
  have hm:(depOn D j).map (fun k=>if k=j then v else vs k)=(depOn D j).map vs:=List.map_congr_left fun k hk=>by
   show (if k=j then v else vs k)=vs k
   exact if_neg fun e:k=j=>hiL (e▸hbef k (b2 k hk))
  simp only[hm]
  simpa using g1
 have hN:=how vs w h.world hf (fun b w'=>b.defers=(layAt l vs a0 (depOn D i)).defers∧∃v,(fact F i ((depOn D i).map vs) v w'∧(E w w'∨(S w'∧∀j xs u,j≠i→j∉depOn K i→(bef l j).contains i=false→fact F j xs u w→fact F j xs u w')))∧b=(layAt l vs a0 (depOn D i)).put o.dst v)
  fun v w' g1 g2=>⟨by cases o.dst<;>rfl,v,⟨g1,g2⟩,rfl⟩
 refine wpOp_step hio fun M' hM'=>?_
 rw[hlook.2]
 split
 ·rename_i hw
  rw[if_pos hw] at hN
  exact wp_put hlook.1 hsz (fun c w h=>by rw[hact];exact layAt_panic hQ h) hN fun v w' hg=>hM' _ _ (fin v w' hg)
 rename_i hw
 rw[if_neg hw] at hN
 obtain⟨_,v,hg,hv⟩:=hN
 refine hM' _ _ ?_
 rw[put_same hsz hv]
 exact fin v w hg
theorem Up.any(hB:factsB l D K=true)(hE:∀w w',E w w'→(S w→S w')∧∀j xs u,fact F j xs u w→fact F j xs u w')(hQ:∀c a (s:Tmp) v w,Q (.panic c) a w→Q (.panic c) (a.put (some s) v) w)
  (ho:owedAll P l Q a0 S F E D K 0 l)
  (hend:∀vs w,S w→(∀j,j<l.length→(∀i,i<l.length→j∉depOn K i)→fact F j ((depOn D j).map vs) (vs j) w)→Q .normal (layAt l vs a0 (List.range l.length)) w) :
  ∀(fuel:Nat) {L:List Nat} {vs:Nat→Value} {listed:Array Bool} {a:Act} {w:World},Up l a0 S F D K L vs listed a w→((List.range l.length).filter fun j=> !L.contains j).length≤fuel →
   wpAny P .any l.toArray Q fuel listed a w:=by
 obtain⟨hsel,hspec⟩:=factsB_spec hB
 intro fuel
 have all:∀{L:List Nat} {vs:Nat→Value} {listed:Array Bool} {a:Act} {w:World},Up l a0 S F D K L vs listed a w→(∀j,j<l.length→j∈L)→Q .normal a w:=fun {L vs listed a w} h hL=>by
  have hp:L.Perm (List.range l.length):=(List.perm_ext_iff_of_nodup h.nodup List.nodup_range).2 fun j=>⟨fun hj=>List.mem_range.2 (h.lt j hj),fun hj=>hL j (List.mem_range.1 hj)⟩
  rw[h.act,layAt_perm hp fun x hx y hy hne=>((hspec x (h.lt x hx)).2.2.2.1 y (h.lt y hy) (Ne.symm hne)).1]
  exact hend vs w h.world fun j hj hal=>h.facts j (hL j hj) fun i hi=>hal i (h.lt i hi)
 have ready:∀{L:List Nat} {vs:Nat→Value} {listed:Array Bool} {a:Act} {w:World},Up l a0 S F D K L vs listed a w→Region.ready .any l.toArray listed=[]→∀j,j<l.length→j∈L:=fun {L vs listed a w} h h0 j=>by
  induction j using Nat.strongRecOn with
  | ind j ih =>
   intro hj
   apply Decidable.byContradiction
   intro hjL
   have hj0:j<l.toArray.size:=by simpa using hj
   have:j∈Region.ready .any l.toArray listed:=mem_ready.2 ⟨by rw[h.here j hj];simpa using hjL,l[j],by simp[hj],fun e he hb=>by
    have hb':e.on∈bef l j:=by
     unfold bef
     rw[List.getElem?_eq_getElem hj]
     simp only[Option.map_some,Option.getD_some,List.mem_map,List.mem_filter]
     exact⟨e,⟨by simpa using he,hb⟩,rfl⟩
    have hlt:=(hspec j hj).1 _ hb'
    have h1:=h.here e.on (by omega)
    have h2:=ih e.on hlt (by omega)
    have h3:e.on<listed.size:=by rw[h.size];omega
    rw[decide_eq_true h2] at h1
    simpa [h3] using h1⟩
   rw[h0] at this
   cases this
 induction fuel with
 | zero =>
  intro L vs listed a w h hf
  have h0:∀j,j<l.length→j∈L:=fun j hj=>by
   apply Decidable.byContradiction
   intro hjL
   have:j∈(List.range l.length).filter fun j=> !L.contains j:=by simp[hj,hjL]
   have:=List.length_pos_of_mem this
   omega
  refine⟨?_,all h h0⟩
  rw[List.eq_nil_iff_forall_not_mem]
  intro j hj
  obtain⟨h1,o,h2,_⟩:=mem_ready.1 hj
  have hlt:j<l.length:=(List.getElem?_eq_some_iff.1 (by simpa using h2)).1
  rw[h.here j hlt,decide_eq_true (h0 j hlt)] at h1
  cases h1
 | succ fuel ih =>
  intro L vs listed a w h hf
  refine⟨fun h0=>all h (ready h h0),fun i hi=>?_⟩
  refine h.step hB hE hQ ho hi fun vs' a' w' h'=>ih h' ?_
  obtain⟨h1,o,h2,_⟩:=mem_ready.1 hi
  have hlt:i<l.length:=(List.getElem?_eq_some_iff.1 (by simpa using h2)).1
  have hiL:i∉L:=by
   have:=h.here i hlt
   rw[h1] at this
   simpa using this
  have h3:((List.range l.length).filter fun j=> !(L++[i]).contains j)=((List.range l.length).filter fun j=> !L.contains j).filter fun j=>j !=i:=by
   rw[List.filter_filter]
   congr 1
   funext j
   by_cases hji:j=i<;>simp[hji]
  rw[h3]
  have h4:(((List.range l.length).filter fun j=> !L.contains j).filter fun j=>j !=i).length<((List.range l.length).filter fun j=> !L.contains j).length :=
   List.length_filter_lt_length_iff_exists.2 ⟨i,by simp[hlt,hiL],by simp⟩
  omega
def monoAll(E:World→World→Prop):List (List Value→Value→World→Prop)→Prop
 | []=>True
 | f::r=>(∀xs v u u',E u u'→f xs v u→f xs v u')∧monoAll E r
theorem mono_cons{f:List Value→Value→World→Prop}{r:List (List Value→Value→World→Prop)}(h:∀xs v u u',E u u'→f xs v u→f xs v u')(hr:monoAll E r):monoAll E (f::r):=⟨h,hr⟩
theorem mono_nil:monoAll E []:=trivial
theorem mono_at:∀{F:List (List Value→Value→World→Prop)},monoAll E F→∀j xs v u u',E u u'→fact F j xs v u→fact F j xs v u'
 | [],_,_,_,_,_,_,_,h=>h
 | _::_,h,0,xs,v,u,u',e,hf=>h.1 xs v u u' e hf
 | _::_,h,j+1,xs,v,u,u',e,hf=>mono_at h.2 j xs v u u' e hf
theorem hE_of(hS:∀u u',E u u'→S u→S u')(h:monoAll E F):∀w w',E w w'→(S w→S w')∧∀j xs u,fact F j xs u w→fact F j xs u w' :=
 fun w w' e=>⟨hS w w' e,fun j xs u=>mono_at h j xs u w w' e⟩
theorem wp_region_facts{id:Nat}{w:World}(S:World→Prop)(F:List (List Value→Value→World→Prop))(E:World→World→Prop)(D K:List (List Nat))(hm:P.follows .mixedOrders=true)(hB:factsB l D K=true)
  (hE:∀w w',E w w'→(S w→S w')∧∀j xs u,fact F j xs u w→fact F j xs u w') (hQ:∀c a (s:Tmp) v w,Q (.panic c) a w→Q (.panic c) (a.put (some s) v) w) (hS:S w.drew)
  (ho:owedAll P l Q a0 S F E D K 0 l)
  (hend:∀vs w,S w→(∀j,j<l.length→(∀i,i<l.length→j∉depOn K i)→fact F j ((depOn D j).map vs) (vs j) w)→Q .normal (layAt l vs a0 (List.range l.length)) w) :
  (Code.region id l.toArray true).wp P Q a0 w:=by
 refine wp_region_any hm (Up.any hB hE hQ ho hend _ (L:=[]) (vs:=fun _=>undef) ⟨rfl,List.nodup_nil,by simp,by simp,by simp,fun j hj=>?_,hS,by simp⟩ ?_)
 ·simp[hj]
 exact Nat.le_trans (List.length_filter_le _ _) (by simp)
end
end Go.Proofs.YtpcdmbajfmnoiaaGreatDoor.F2
