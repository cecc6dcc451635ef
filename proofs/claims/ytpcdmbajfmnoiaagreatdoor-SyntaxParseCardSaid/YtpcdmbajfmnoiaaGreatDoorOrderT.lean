/- A region whose order is open, gone through in orders that the prover names as a tree: where two operations may come up, both ways are gone. No condition. -/
import Derived.Test.YtpcdmbajfmnoiaaGreatDoorOrder
namespace Go.Proofs.YtpcdmbajfmnoiaaGreatDoor
set_option linter.unusedVariables false
set_option linter.unusedSimpArgs false
inductive OT where
 | fin
 | take (i:Nat) (t:OT)
 | only (i:Nat) (t:OT)
 | both (i j:Nat) (ti tj:OT)
section
variable {P:Program} {l:List Oper} {Q:Exit→Act→World→Prop} {S:World→Prop}
def treeB(ops:Array Oper):OT→Nat→Array Bool→Bool
 | .fin,0,listed=>(Region.ready .any ops listed).isEmpty
 | .take i t,n+1,listed=>Region.free .any ops listed i&&(Region.ready .any ops listed).contains i&&waitsB ops ops.size i&&i !=ops.size&&treeB ops t n (listed.setIfInBounds i true)
 | .only i t,n+1,listed=>(Region.ready .any ops listed==[i])&&(ops[i]?).isSome&&treeB ops t n (listed.setIfInBounds i true)
 | .both i j ti tj,n+1,listed=>(Region.ready .any ops listed==[i,j])&&(ops[i]?).isSome&&(ops[j]?).isSome&&treeB ops ti n (listed.setIfInBounds i true)&&treeB ops tj n (listed.setIfInBounds j true)
 | _,_,_=>false
def oneT(P:Program)(l:List Oper)(Q:Exit→Act→World→Prop)(S:World→Prop)(i:Nat)(K:Act→World→Prop)(a:Act)(w:World):Prop :=
 ∃o,l[i]?=some o∧if Region.wanted o (yielded l.toArray a.tmps)=true then Oper.wp P o a w (fun a' w'=>S w'∧K a' w') Q else (S w∧K (a.put o.dst undef) w)
def wpT(P:Program)(l:List Oper)(Q:Exit→Act→World→Prop)(S:World→Prop):OT→Act→World→Prop
 | .fin,a,w=>Q .normal a w
 | .take i t,a,w=>∃o v,l[i]?=some o∧YieldsIf P l.toArray S o v a∧S w∧(∀c a w,Q (.panic c) (a.put o.dst v) w→Q (.panic c) a w)∧wpT P l Q S t (a.put o.dst v) w
 | .only i t,a,w=>oneT P l Q S i (wpT P l Q S t) a w
 | .both i j ti tj,a,w=>oneT P l Q S i (wpT P l Q S ti) a w∧oneT P l Q S j (wpT P l Q S tj) a w
theorem oneT_wpOp{i:Nat}{K M:Act→World→Prop}{a:Act}{w:World}(h:oneT P l Q S i K a w)(hK:∀a' w',S w'→K a' w'→M a' w'):wpOp P l.toArray Q i (fun a' w'=>(i≠l.toArray.size→S w')∧M a' w') a w:=by
 obtain⟨o,ho,h⟩:=h
 refine wpOp_step (o:=o) (by simpa using ho) fun K' hK'=>?_
 split
 ·rename_i hw
  rw[if_pos hw] at h
  exact Oper.wp_mono (fun a' w' h'=>hK' a' w' ⟨fun _=>h'.1,hK _ _ h'.1 h'.2⟩) h
 rename_i hw
 rw[if_neg hw] at h
 exact hK' _ _ ⟨fun _=>h.1,hK _ _ h.1 h.2⟩
theorem wpS_of_wpT(hs:Region.noSelect l.toArray=true):∀(t:OT)(n:Nat)(listed:Array Bool)(a:Act)(w:World),treeB l.toArray t n listed=true→wpT P l Q S t a w→wpS P l.toArray Q S l.toArray.size n listed a w
 | .fin,0,listed,a,w,hB,h=>⟨by simpa [treeB] using hB,h⟩
 | .take i t,n+1,listed,a,w,hB,h=>by
  simp only[treeB,Bool.and_eq_true,bne_iff_ne] at hB
  obtain⟨⟨⟨⟨hf,hr⟩,hl⟩,hne⟩,hB⟩:=hB
  obtain⟨o,v,ho,hy,hS,hQ,h⟩:=h
  exact wpS_first (oi:=o) (by simpa using ho) (Region.noSelect_spec hs) hQ hl hne n listed a w (Region.free_spec (by simpa using ho) hf) (by simpa using hr) hy hS (wpS_of_wpT hs t n _ _ _ hB h)
 | .only i t,n+1,listed,a,w,hB,h=>by
  simp only[treeB,Bool.and_eq_true,beq_iff_eq] at hB
  obtain⟨⟨hr,_⟩,hB⟩:=hB
  refine⟨fun h0=>(by rw[hr] at h0;cases h0),fun j hj=>?_⟩
  rw[hr] at hj
  obtain rfl:j=i:=by simpa using hj
  exact oneT_wpOp h fun a' w' _ hk=>wpS_of_wpT hs t n _ _ _ hB hk
 | .both i j ti tj,n+1,listed,a,w,hB,h=>by
  simp only[treeB,Bool.and_eq_true,beq_iff_eq] at hB
  obtain⟨⟨⟨⟨hr,_⟩,_⟩,hi⟩,hj⟩:=hB
  refine⟨fun h0=>(by rw[hr] at h0;cases h0),fun k hk=>?_⟩
  rw[hr] at hk
  have hk:k=i∨k=j:=by simpa using hk
  rcases hk with rfl|rfl
  ·exact oneT_wpOp h.1 fun a' w' _ hk=>wpS_of_wpT hs ti n _ _ _ hi hk
  exact oneT_wpOp h.2 fun a' w' _ hk=>wpS_of_wpT hs tj n _ _ _ hj hk
 | .fin,n+1,listed,a,w,hB,h=>by cases hB
 | .take i t,0,listed,a,w,hB,h=>by cases hB
 | .only i t,0,listed,a,w,hB,h=>by cases hB
 | .both i j ti tj,0,listed,a,w,hB,h=>by cases hB
theorem wp_region_tree{id:Nat}{a:Act}{w:World}(S:World→Prop)(t:OT)(hm:P.follows .mixedOrders=true)(hB:(Region.noSelect l.toArray&&treeB l.toArray t l.toArray.size (Array.replicate l.toArray.size false))=true)
  (h:wpT P l Q S t a w.drew):(Code.region id l.toArray true).wp P Q a w:=by
 simp only[Bool.and_eq_true] at hB
 exact wp_region_any hm (wpAny_of_wpS (S:=S) (last:=l.toArray.size) _ _ _ _ (wpS_of_wpT hB.1 t _ _ a _ hB.2 h))
theorem wpT_take{i:Nat}{t:OT}{o:Oper}{a:Act}{w:World}{v:Value}(ho:l[i]?=some o)(hS:S w)(hg:Region.wanted o (yielded l.toArray a.tmps)=true)(hrun:∀w,S w→(execOp a.eval o).run P w=.ok (.value v) w)
  (hQ:∀c a w,Q (.panic c) (a.put o.dst v) w→Q (.panic c) a w) (h:wpT P l Q S t (a.put o.dst v) w):wpT P l Q S (.take i t) a w :=
 ⟨o,v,ho,.inl ⟨hg,hrun⟩,hS,hQ,h⟩
theorem oneT_run{i:Nat}{o:Oper}{K:Act→World→Prop}{a:Act}{w:World}(ho:l[i]?=some o)(hg:Region.wanted o (yielded l.toArray a.tmps)=true)
  (h:∀M:Act→World→Prop,(∀a' w',S w'∧K a' w'→M a' w')→o.wp P a w M Q):oneT P l Q S i K a w:=by
 refine⟨o,ho,?_⟩
 rw[if_pos hg]
 exact h _ fun _ _ h=>h
theorem wpT_only{i:Nat}{t:OT}{a:Act}{w:World}(h:oneT P l Q S i (wpT P l Q S t) a w):wpT P l Q S (.only i t) a w:=h
theorem wpT_both{i j:Nat}{ti tj:OT}{a:Act}{w:World}(h1:oneT P l Q S i (wpT P l Q S ti) a w)(h2:oneT P l Q S j (wpT P l Q S tj) a w):wpT P l Q S (.both i j ti tj) a w:=⟨h1,h2⟩
theorem wpT_fin{a:Act}{w:World}(h:Q .normal a w):wpT P l Q S .fin a w:=h
end
end Go.Proofs.YtpcdmbajfmnoiaaGreatDoor
