/- A region whose order is open, gone through in ONE order that the prover names: reads are taken as soon as they may come up (each yields its value in every world that meets S); the others come up alone. No condition. -/
import Derived.OrdersHeld
import Derived.Tactics
import Derived.Tactics2
import Derived.KernelRfl
import Derived.RegionTactic
import Derived.Deep.MidRow
namespace Go.Proofs.YtpcdmbajfmnoiaaGreatDoor
set_option linter.unusedVariables false
set_option linter.unusedSimpArgs false
section
variable {P:Program} {ops:Array Oper} {Q:Exit→Act→World→Prop} {S:World→Prop} {last:Nat}
def wpS(P:Program)(ops:Array Oper)(Q:Exit→Act→World→Prop)(S:World→Prop)(last:Nat):Nat→Array Bool→Act→World→Prop
 | 0,listed,a,w=>Region.ready .any ops listed=[]∧Q .normal a w
 | fuel+1,listed,a,w =>
  (Region.ready .any ops listed=[]→Q .normal a w) ∧
  ∀i∈Region.ready .any ops listed,wpOp P ops Q i (fun a' w'=>(i≠last→S w')∧wpS P ops Q S last fuel (listed.setIfInBounds i true) a' w') a w
theorem wpAny_of_wpS:∀(fuel:Nat)(listed:Array Bool)(a:Act)(w:World),wpS P ops Q S last fuel listed a w→wpAny P .any ops Q fuel listed a w
 | 0,_,_,_,h=>h
 | fuel+1,_,_,_,h=>⟨h.1,fun i hi=>wpOp_mono (fun a' w' h'=>wpAny_of_wpS fuel _ a' w' h'.2) (h.2 i hi)⟩
def waitsB(ops:Array Oper)(j i:Nat):Bool :=
 match ops[j]? with
 | some oj=>oj.after.any fun e=>Region.binds .any e&&e.on==i
 | none=>true
theorem unlisted_getD{listed:Array Bool}{i:Nat}(h0:listed.getD i true=false):listed.getD i false=false:=by
 rcases Nat.lt_or_ge i listed.size with h'|h'
 ·simp[h'] at h0 ⊢;exact h0
 simp[Array.getElem?_eq_none h'] at h0
theorem wpS_first{i:Nat}{oi:Oper}{v:Value}(hi:ops[i]?=some oi)(hsel:∀(j:Nat)(o:Oper) cs b,ops[j]?=some o→o.op≠ .select cs b)
  (hQ:∀c a w,Q (.panic c) (a.put oi.dst v) w→Q (.panic c) a w) (hlast:waitsB ops last i=true) (hne:i≠last) :
  ∀(fuel:Nat)(listed:Array Bool)(a:Act)(w:World),
   (∀j oj,ops[j]?=some oj→j≠i→listed.getD j true=false→(∀e∈oj.after,Region.binds .any e=true→e.on≠i)→oi.apart ops oj=true) →
   i∈Region.ready .any ops listed→YieldsIf P ops S oi v a→S w →
   wpS P ops Q S last fuel (listed.setIfInBounds i true) (a.put oi.dst v) w→wpS P ops Q S last (fuel+1) listed a w:=by
 intro fuel
 induction fuel with
 | zero =>
  intro listed a w _ hr hy hS H
  refine⟨fun h=>(by rw[h] at hr;cases hr),fun j hj=>?_⟩
  by_cases hji:j=i
  ·subst hji;exact hy.wpOp hi hS ⟨fun _=>hS,H⟩
  have:=ready_mono hj hji
  rw[H.1] at this
  cases this
 | succ fuel ih =>
  intro listed a w hfree hr hy hS H
  refine⟨fun h=>(by rw[h] at hr;cases hr),fun j hj=>?_⟩
  by_cases hji:j=i
  ·subst hji;exact hy.wpOp hi hS ⟨fun _=>hS,H⟩
  have h1:=H.2 j (ready_mono hj hji)
  obtain⟨hjun,oj,hoj,hall⟩:=mem_ready.1 hj
  have hnot:∀e∈oj.after,Region.binds .any e=true→e.on≠i:=fun e he hb heq=>by
   have h2:=hall e he hb
   rw[heq,unlisted_getD (mem_ready.1 hr).1] at h2
   cases h2
  have hjl:j≠last:=by
   rintro rfl
   unfold waitsB at hlast
   rw[hoj] at hlast
   obtain⟨e,he,hb⟩:=Array.any_eq_true'.1 hlast
   simp only[Bool.and_eq_true,beq_iff_eq] at hb
   exact hnot e he hb.1 hb.2
  have h2:=wpOp_putIf hoj (hfree j oj hoj hji hjun hnot) (fun cs b=>hsel i oi cs b hi) (fun cs b=>hsel j oj cs b hoj) hQ hy h1
  have hfree':∀k ok,ops[k]?=some ok→k≠i→(listed.setIfInBounds j true).getD k true=false →
    (∀e∈ok.after,Region.binds .any e=true→e.on≠i)→oi.apart ops ok=true:=fun k ok hk hki hun hno=>by
   refine hfree k ok hk hki ?_ hno
   by_cases hjk:j=k
   ·subst hjk;exact hjun
   rw[getD_set_ne true hjk] at hun;exact hun
  refine wpOp_mono (fun a' w' h3=>⟨fun h4=>h3.2.1 h4,ih (listed.setIfInBounds j true) a' w' hfree' (ready_mono hr (Ne.symm hji)) h3.1 (h3.2.1 hjl) ?_⟩) h2
  rw[Array.setIfInBounds_comm _ _ hji]
  exact h3.2.2
def orderB(ops:Array Oper)(last:Nat):List (Nat×Nat)→Array Bool→Bool
 | [],listed=>(Region.ready .any ops listed).isEmpty
 | (i,0)::r,listed=>Region.free .any ops listed i&&(Region.ready .any ops listed).contains i&&waitsB ops last i&&i !=last&&orderB ops last r (listed.setIfInBounds i true)
 | (i,k+1)::r,listed=>(Region.ready .any ops listed==[i])&&(k==0||i==last)&&(ops[i]?).isSome&&orderB ops last r (listed.setIfInBounds i true)
def pick(l:List Oper)(r:List (Nat×Nat)):List (Oper×Nat):=r.filterMap fun x=>(l[x.1]?).map fun o=>(o,x.2)
def wpF(P:Program)(ops:Array Oper)(Q:Exit→Act→World→Prop)(S:World→Prop):List (Oper×Nat)→Act→World→Prop
 | [],a,w=>Q .normal a w
 | (o,0)::r,a,w=>∃v,YieldsIf P ops S o v a∧S w∧(∀c a w,Q (.panic c) (a.put o.dst v) w→Q (.panic c) a w)∧wpF P ops Q S r (a.put o.dst v) w
 | (o,k+1)::r,a,w=>if Region.wanted o (yielded ops a.tmps)=true then Oper.wp P o a w (fun a' w'=>(k=0→S w')∧wpF P ops Q S r a' w') Q
   else ((k=0→S w)∧wpF P ops Q S r (a.put o.dst undef) w)
theorem wpS_of_wpF{l:List Oper}(hs:Region.noSelect l.toArray=true):∀(r:List (Nat×Nat)) (listed:Array Bool) (a:Act) (w:World),orderB l.toArray last r listed=true→wpF P l.toArray Q S (pick l r) a w→wpS P l.toArray Q S last r.length listed a w
 | [],listed,a,w,hB,h=>⟨by simpa [orderB] using hB,h⟩
 | (i,0)::r,listed,a,w,hB,h=>by
  simp only[orderB,Bool.and_eq_true,bne_iff_ne] at hB
  obtain⟨⟨⟨⟨hf,hr⟩,hl⟩,hne⟩,hB⟩:=hB
  obtain⟨_,oi,hi,_⟩:=mem_ready.1 (show i∈Region.ready .any l.toArray listed by simpa using hr)
  have hi':l[i]?=some oi:=by simpa using hi
  rw[show pick l ((i,0)::r)=(oi,0)::pick l r from by simp[pick,hi']] at h
  obtain⟨v,hy,hS,hQ,h⟩:=h
  exact wpS_first hi (Region.noSelect_spec hs) hQ hl hne r.length listed a w (Region.free_spec hi hf) (by simpa using hr) hy hS (wpS_of_wpF hs r _ _ _ hB h)
 | (i,k+1)::r,listed,a,w,hB,h=>by
  simp only[orderB,Bool.and_eq_true,Bool.or_eq_true,beq_iff_eq] at hB
  obtain⟨⟨⟨hr,hk⟩,hi⟩,hB⟩:=hB
  obtain⟨oi,hi⟩:=Option.isSome_iff_exists.1 hi
  have hi':l[i]?=some oi:=by simpa using hi
  rw[show pick l ((i,k+1)::r)=(oi,k+1)::pick l r from by simp[pick,hi']] at h
  have hkS:∀{p:Prop},(k=0→p)→i≠last→p:=fun hp hne=>hp (hk.resolve_right hne)
  refine⟨fun h0=>(by rw[hr] at h0;cases h0),fun j hj=>?_⟩
  rw[hr] at hj
  obtain rfl:j=i:=by simpa using hj
  refine wpOp_step hi fun K hK=>?_
  unfold wpF at h
  split
  ·rename_i hw
   rw[if_pos hw] at h
   exact Oper.wp_mono (fun a' w' h'=>hK a' w' ⟨hkS h'.1,wpS_of_wpF hs r _ a' w' hB h'.2⟩) h
  rename_i hw
  rw[if_neg hw] at h
  exact hK _ _ ⟨hkS h.1,wpS_of_wpF hs r _ _ _ hB h.2⟩
theorem wp_region_order{id:Nat}{l:List Oper}{a:Act}{w:World}(S:World→Prop)(last:Nat)(r:List (Nat×Nat))(hm:P.follows .mixedOrders=true)
  (hB:(Region.noSelect l.toArray&&orderB l.toArray last r (Array.replicate l.toArray.size false)&&r.length==l.toArray.size)=true)
  (h:wpF P l.toArray Q S (pick l r) a w.drew):(Code.region id l.toArray true).wp P Q a w:=by
 simp only[Bool.and_eq_true,beq_iff_eq] at hB
 obtain⟨⟨hs,hB⟩,hl⟩:=hB
 refine wp_region_any hm (wpAny_of_wpS (S:=S) (last:=last) _ _ _ _ ?_)
 have:=wpS_of_wpF hs r _ a _ hB h
 rwa [hl] at this
theorem wpF_take{r:List (Oper×Nat)}{o:Oper}{a:Act}{w:World}{v:Value}(hS:S w)(hg:Region.wanted o (yielded ops a.tmps)=true)(hrun:∀w,S w→(execOp a.eval o).run P w=.ok (.value v) w)
  (hQ:∀c a w,Q (.panic c) (a.put o.dst v) w→Q (.panic c) a w) (h:wpF P ops Q S r (a.put o.dst v) w):wpF P ops Q S ((o,0)::r) a w :=
 ⟨v,.inl ⟨hg,hrun⟩,hS,hQ,h⟩
theorem wpF_only{r:List (Oper×Nat)}{o:Oper}{k:Nat}{a:Act}{w:World}(hg:Region.wanted o (yielded ops a.tmps)=true)
  (h:∀K:Act→World→Prop,(∀a' w',((k=0→S w')∧wpF P ops Q S r a' w')→K a' w')→o.wp P a w K Q):wpF P ops Q S ((o,k+1)::r) a w:=by
 unfold wpF
 rw[if_pos hg]
 exact h _ fun _ _ h=>h
theorem wpF_skip{r:List (Oper×Nat)}{o:Oper}{a:Act}{w:World}(hS:S w)(hg:Region.wanted o (yielded ops a.tmps)=false)
  (hQ:∀c a w,Q (.panic c) (a.put o.dst undef) w→Q (.panic c) a w) (h:wpF P ops Q S r (a.put o.dst undef) w):wpF P ops Q S ((o,0)::r) a w :=
 ⟨undef,.inr ⟨hg,rfl⟩,hS,hQ,h⟩
theorem wpF_pass{r:List (Oper×Nat)}{o:Oper}{k:Nat}{a:Act}{w:World}(hg:Region.wanted o (yielded ops a.tmps)=false)(hS:k=0→S w)
  (h:wpF P ops Q S r (a.put o.dst undef) w):wpF P ops Q S ((o,k+1)::r) a w:=by
 unfold wpF
 rw[if_neg (by rw[hg];simp)]
 exact⟨hS,h⟩
theorem wpF_nil{a:Act}{w:World}(h:Q .normal a w):wpF P ops Q S [] a w:=h
end
end Go.Proofs.YtpcdmbajfmnoiaaGreatDoor
