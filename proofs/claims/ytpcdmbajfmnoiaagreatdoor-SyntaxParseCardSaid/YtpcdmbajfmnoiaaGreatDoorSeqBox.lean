/- A range over an iterator that keeps a box of its own (what is left of a text): the iterator's contract; the caller's law. No condition. -/
import Derived.RangeFuncNested
import Derived.RangeFuncCalls
import Derived.Test.YtpcdmbajfmnoiaaGreatDoorBase
namespace Go.Proofs.YtpcdmbajfmnoiaaGreatDoor
set_option linter.unusedVariables false
set_option linter.unusedSimpArgs false
open Go.RowKit
def Blind{β:Type}(b:Nat)(J:β→World→Prop):Prop:=∀s W v,J s W→J s (W.setCell ⟨b,0,none⟩ v)
def SeqBox{α:Type}(F:Fence)(n:Nat)(P:Program)(gf:Nat)(lb:Array Value)(encs:α→Array Value)(b:Nat)(G:World→Prop)(xs:List α)(w:World):Prop :=
 ∀(l:Nat)(J Jx:List α→World→Prop)(W:World),Below w.heap.size w W→AbidesFrom W.heap.size J→Blind b J→(∀pre W1,J pre W1→G W1) →
  (∀pre x W1,J pre W1→(∃r,xs=pre++x::r)→YieldAt F (n-1) P l (encs x) W1 fun e W'=>(e=.returned (.bool true)∧J (pre++[x]) W'∧W'.heap[b]?=W1.heap[b]?)∨(e=.returned (.bool false)∧Jx (pre++[x]) W')) →
  J [] W→CallsIn F n P gf (#[.func (.yield l) #[] #[]]++lb) W fun e W'=>(∃v,e=.returned v)∧(J xs W'∨∃pre,Jx pre W')
theorem wpIn_box{F:Fence}{n:Nat}{P:Program}{α:Type}{g:Operand}{ps:Array Tmp}{assign body:Code}{Q:Exit→Act→World→Prop}{a:Act}{w:World}
  (hro:F.round=none) (h1:1≤n) {gf:Nat} {lb:Array Value} (hg:a.eval g=.func (.func gf) #[] lb) (hFg:F.fn gf) (eg:∀args w,(callFunc gf args).run P w=.ok (.enter gf args) w)
  {encs:α→Array Value} {b:Nat} {G:World→Prop} {xs:List α} (hseq:SeqBox F (n-1) P gf lb encs b G xs w) (hb:b<w.heap.size) (hps:∀x,(encs x).size=ps.size)
  (I:List α→World→Prop) (Ix:Code→List α→World→Prop) (hI:OwnFrom w.heap.size I) (hIx:∀c,OwnFrom w.heap.size (Ix c)) (hBl:Blind b I) (hG:∀pre W,I pre W→G W) (h0:I [] w) (a₁:α→Act)
  (hassign:∀(l:Nat)(x:α)(W:World)(K:Act→World→Prop),K (a₁ x) W →
   assign.wpIn (F.inRound l) (n-1-1) P (Exit.then K (fun _ _ _=>False)) { tmps:=(ps.zip (encs x)).foldl (fun t (p,v)=>t.setIfInBounds p v) a.tmps,defers:=[] } W)
  (hbody:∀(l:Nat)(pre:List α)(x:α)(W:World),w.heap.size≤l→I pre W→(∃r,xs=pre++x::r)→body.wpIn (F.inRound l) (n-1-1) P (ownPostG w.heap.size (fun A B=>B.heap[b]?=A.heap[b]?) I Ix (pre++[x]) W) (a₁ x) W)
  (hdone:∀(D:Nat)(W:World),w.heap.size≤D→I xs W→W.heap[D]?=some (.deferred (some []))→Q .normal { a with defers:={ target:=.collected D,args:=#[] }::a.defers } W)
  (hstop:∀(D:Nat)(c:Code)(pre:List α)(W:World),w.heap.size≤D→Ix c pre W→W.heap[D]?=some (.deferred (some []))→c.wpIn F n P Q { a with defers:={ target:=.collected D,args:=#[] }::a.defers } W) :
  (Code.rangeFunc g ps assign body).wpIn F n P Q a w:=by
 refine wpIn_rangeFunc fun fn hfn=>?_
 rw[hro]
 obtain⟨rc,hrc⟩:∃rc:LoopState→Option Code→Loop,rc=fun s j=>{ state:=s,pending:=j,fn,tmps:=a.tmps,params:=ps,assign,body,defers:=w.heap.size }:=⟨_,rfl⟩
 have hpend:∀s j,(rc s j).pending=j:=fun s j=>by rw[hrc]
 have hst:∀s j,(rc s j).state=s:=fun s j=>by rw[hrc]
 have hset:∀s j s',({ rc s j with state:=s' }:Loop)=rc s' j:=fun s j s'=>by rw[hrc]
 have hset2:∀s j s' j',({ rc s j with state:=s',pending:=j' }:Loop)=rc s' j':=fun s j s' j'=>by rw[hrc]
 obtain⟨W1,hW1⟩:∃W1,(w.alloc (.deferred (some []))).alloc (.loop (rc .ready none))=W1:=⟨_,rfl⟩
 have hsz:W1.heap.size=w.heap.size+2:=by rw[←hW1];simp
 have hl1:W1.heap[w.heap.size+1]?=some (.loop (rc .ready none)):=by
  rw[←hW1];have h:=World.alloc_heap_new (w.alloc (.deferred (some []))) (.loop (rc .ready none));rwa [World.size_alloc] at h
 have hd1:W1.heap[w.heap.size]?=some (.deferred (some [])):=by
  rw[←hW1];exact (Below.heap_alloc _ _ _ (by simp)).trans (World.alloc_heap_new w _)
 have hb1:Below w.heap.size w W1:=by rw[←hW1];exact ((Below.refl _ w).alloc (Nat.le_refl _) _).alloc (by simp) _
 have turn:∀{J:List α→World→Prop} {k:List α} {W:World} {o:Loop} (o':Obj),OwnFrom w.heap.size J→J k W→W.heap[w.heap.size+1]?=some (.loop o)→J k (W.putObj (w.heap.size+1) o') :=
  fun o' hJ h hl=>hJ.putObj o' h (by omega) hl rfl
 have mark:∀{W:World} (o':Obj),W.heap[w.heap.size]?=some (.deferred (some []))→(W.putObj (w.heap.size+1) o').heap[w.heap.size]?=some (.deferred (some [])) :=
  fun o' h=>(World.putObj_heap_other (by omega)).trans h
 have self:∀{W:World} {o:Loop} (o':Obj),W.heap[w.heap.size+1]?=some (.loop o)→(W.putObj (w.heap.size+1) o').heap[w.heap.size+1]?=some o' :=
  fun o' h=>World.putObj_heap_same (Array.getElem?_eq_some_iff.1 h).1
 have boxs:∀{W:World} (o':Obj),(W.putObj (w.heap.size+1) o').heap[b]?=W.heap[b]?:=fun o'=>World.putObj_heap_other (by omega)
 have walks:∀{A B:World} {row:Option Nat},(∀r,row=some r→W1.heap.size≤r∧∃o:Obj,A.heap[r]?=some o∧o.isWalk=true)→(∀r,row=some r→w.heap.size≤r∧∃o:Obj,A.heap[r]?=some o∧o.isCells=false) :=
  fun h r e=>by obtain⟨hB,o,ho,hw⟩:=h r e;exact⟨by omega,o,ho,Obj.not_cells_of_walk hw⟩
 have setc:∀(W:World)(v:Value)(k:Nat)(o:Obj),k≠b→W.heap[k]?=some o→(W.setCell ⟨b,0,none⟩ v).heap[k]?=some o:=fun W v k o hk h=>((grownBy_setCell' W b v).block k (Array.getElem?_eq_some_iff.1 h).1 (fun e=>hk (by injection e))).trans h
 refine⟨w.heap.size+1,[{ target:=.collected w.heap.size,args:=#[] }],W1,{ target:=.fn (.func gf) lb,args:=#[.func (.yield (w.heap.size+1)) #[] #[]] },W1,gf,
  #[.func (.yield (w.heap.size+1)) #[] #[]]++lb,W1,?_,?_,?_,?_,fun _=>h1,?_⟩
 ·rw[←hW1,hrc];exact run_enterLoop_outer _ _ _ _ _
 ·simp only[resolve,hg]
  simp[go_sem]
 ·intro f' h;simp[Target.leads] at h;subst h;exact hFg
 ·simp[invoke,go_sem,eg]
 refine (hseq (w.heap.size+1)
  (fun k W=>I k W∧W.heap[w.heap.size+1]?=some (.loop (rc .ready none))∧W.heap[w.heap.size]?=some (.deferred (some [])))
  (fun k W=>∃c,Ix c k W∧W.heap[w.heap.size+1]?=some (.loop (rc .done (some c)))∧W.heap[w.heap.size]?=some (.deferred (some []))) W1 hb1
  (fun s A B row h hg' hr=>⟨hI s A B row h.1 hg' (walks (B:=B) hr),(grownBy_keeps hg' (fun r e=>(hr r e).2) h.2.1 rfl).trans h.2.1,(grownBy_keeps hg' (fun r e=>(hr r e).2) h.2.2 rfl).trans h.2.2⟩)
  (fun s W v h=>⟨hBl s W v h.1,setc W v _ _ (by omega) h.2.1,setc W v _ _ (by omega) h.2.2⟩)
  (fun k W h=>hG k W h.1) ?_ ⟨by rw[←hW1];exact hI.alloc _ (hI.alloc _ h0),hl1,hd1⟩).mono ?_
 ·rintro k x W ⟨hi,hl,hd⟩ hx
  have hy:=run_yield (P:=P) (args:=encs x) hl (by rw[hrc];exact hps x)
  have hbr:(Instr.beginRound (w.heap.size+1)).run P W=.ok () (W.putObj (w.heap.size+1) (.loop (rc .busy none))):=by
   rw[run_beginRound hl (hst _ _),hset]
  rw[show (rc .ready none).fn=fn by rw[hrc],show (rc .ready none).params=ps by rw[hrc],show (rc .ready none).tmps=a.tmps by rw[hrc],show (rc .ready none).assign=assign by rw[hrc],show (rc .ready none).body=body by rw[hrc]] at hy
  refine⟨fn,_,assign,body,hy,roundIn_of_wpIn hfn (hassign _ x W _ ⟨_,hbr,?_⟩)⟩
  have hl2:=self (.loop (rc .busy none)) hl
  have hd2:=mark (.loop (rc .busy none)) hd
  have hb2:(W.putObj (w.heap.size+1) (.loop (rc .busy none))).heap[b]?=W.heap[b]?:=boxs _
  have fin:∀(jump:Option Code)(W3:World),KeepsFrom w.heap.size (W.putObj (w.heap.size+1) (.loop (rc .busy none))) W3 →
    (Instr.endRound (w.heap.size+1) jump).run P W3=.ok (.bool jump.isNone) (W3.putObj (w.heap.size+1) (.loop (rc (if jump.isNone then .ready else .done) jump)))∧W3.heap[w.heap.size+1]?=some (.loop (rc .busy none))∧W3.heap[w.heap.size]?=some (.deferred (some [])):=fun jump W3 hk3=>by
   have hl3:=hk3.same _ _ (by omega) hl2 rfl
   have hd3:=hk3.same _ _ (Nat.le_refl _) hd2 rfl
   refine⟨?_,hl3,hd3⟩
   rw[run_endRound jump hl3,hset2]
  refine wpIn_mono (hbody _ k x _ (by omega) (turn _ hI hi hl) hx) ?_
  rintro e a3 W3 hp
  cases e with
  | normal =>
   obtain⟨hk3,hkp3,hi3⟩:=hp
   obtain⟨hr,hl3,hd3⟩:=fin none W3 hk3
   exact⟨_,_,hr,.inl ⟨rfl,⟨turn _ hI hi3 hl3,self _ hl3,mark _ hd3⟩,(boxs _).trans (hkp3.trans hb2)⟩⟩
  | ret =>
   obtain⟨hk3,hi3⟩:=hp
   obtain⟨hr,hl3,hd3⟩:=fin (some .ret) W3 hk3
   exact⟨_,_,hr,.inr ⟨rfl,.ret,turn _ (hIx _) hi3 hl3,self _ hl3,mark _ hd3⟩⟩
  | exit id =>
   obtain⟨hk3,hi3⟩:=hp
   obtain⟨hr,hl3,hd3⟩:=fin (some (.exit id)) W3 hk3
   exact⟨_,_,hr,.inr ⟨rfl,.exit id,turn _ (hIx _) hi3 hl3,self _ hl3,mark _ hd3⟩⟩
  | goto t =>
   obtain⟨hk3,hi3⟩:=hp
   obtain⟨hr,hl3,hd3⟩:=fin (some (.goto t)) W3 hk3
   exact⟨_,_,hr,.inr ⟨rfl,.goto t,turn _ (hIx _) hi3 hl3,self _ hl3,mark _ hd3⟩⟩
  | panic ch=>exact hp.elim
  | outgrown=>exact hp.elim
 rintro e W2 ⟨⟨v,rfl⟩,(⟨hi,hl,hd⟩|⟨pre,c,hi,hl,hd⟩)⟩
 ·exact⟨none,_,by rw[run_endLoop hl (by rw[hst];simp),hpend],hdone _ _ (Nat.le_refl _) (turn _ hI hi hl) (mark _ hd)⟩
 exact⟨some c,_,by rw[run_endLoop hl (by rw[hst];simp),hpend],hstop _ c pre _ (Nat.le_refl _) (turn _ (hIx c) hi hl) (mark _ hd)⟩
end Go.Proofs.YtpcdmbajfmnoiaaGreatDoor
