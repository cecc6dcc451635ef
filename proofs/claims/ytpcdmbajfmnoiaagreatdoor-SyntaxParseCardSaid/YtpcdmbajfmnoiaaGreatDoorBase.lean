/- Words for slices of bytes that a call owns, over any program: 'bv', 'bvs' (bytes as cells), 'ByteTy' (a slice type of bytes), 'OwnB' (a slice value owns these bytes, and what lay below is as it was), and append's law in these words. No condition. -/
import Derived.WalkKit
import Derived.WalkSpells
import Derived.WalkLawsBesides
import Derived.Maps.AppendAt
import Derived.Deep.Draws
import Derived.Lib.SlicesS
import Derived.Lib.Hide
import Derived.Deep.Cut
import Derived.Deep.DeepCutAuto
import Derived.Deep.DeepMust
import Derived.Deep.DeepFit
import Derived.Deep.QuietTactic
import Derived.BigQuiet
import Derived.Deep.LoopGhost
import Derived.Deep.Light
import Derived.Deep.RegionWith
import Derived.StillTailTactics
import Derived.Deep.RegionHeld3
import Derived.Deep.MidRow
import Derived.Lib.LazyBuf
import Derived.Lib.SlBytesConst
import Derived.Lib.ConvBytes
namespace Go.Proofs.YtpcdmbajfmnoiaaGreatDoor
set_option linter.unusedVariables false
set_option linter.unusedSimpArgs false
open Go.RowKit
def bv(b:UInt8):Value:=.int .u8 (b.toNat:Int)
def bvs(l:List UInt8):List Value:=l.map bv
structure ByteTy(P:Program)(t e:TypeId):Prop where
 sl:P.underlying t=some (.slice e)
 el:P.underlying e=some (.int .u8)
 info:(P.info? e).map (fun i=>(i.zero,i.size,i.bytes))=some (some (.int .u8 0),1,1)
def OwnB(w:World)(base:Nat)(e:TypeId)(v:Value)(l:List UInt8):Prop:=w.ownsRow base e 1 v l.length (bvs l)
theorem OwnB.alloc{w:World}{base e:Nat}{v:Value}{l:List UInt8}(h:OwnB w base e v l)(o:Obj):OwnB (w.alloc o) base e v l:=World.ownsRow.alloc h o
theorem OwnB.grown{w w':World}{base e:Nat}{v:Value}{l:List UInt8}(h:OwnB w base e v l){row:Option Nat}(hg:w.grownBy w' row)(hne:v.ownBlock=none∨v.ownBlock≠row):OwnB w' base e v l:=World.ownsRow.kept h hg hne
theorem OwnB.len{w:World}{base e:Nat}{A:Option Addr}{n c:Nat}{l:List UInt8}(h:OwnB w base e (.slice A n c) l):l.length=n:=by
 rcases h.2 with ⟨h1,h2⟩|⟨g,cap,cur,h1,_⟩
 ·injection h1 with _ h3 _;omega
 injection h1 with _ h3 _;exact h3.symm
theorem OwnB.cell{w:World}{base e:Nat}{g n c:Nat}{l:List UInt8}(h:OwnB w base e (.slice (some ⟨g,0,none⟩) n c) l){j:Nat}(hj:j<l.length):w.cell? ⟨g,j,none⟩=some (bv l[j]):=by
 have h1:=World.ownsRow.cells h (g:=g) rfl j (bv l[j]) (by simp[bvs,hj])
 rwa [show (⟨g,0,none⟩:Addr).add j=⟨g,j,none⟩ from by unfold Addr.add;split<;>simp_all] at h1
def RdB(w:World)(B:Nat)(A:Option Addr)(n:Nat)(l:List UInt8):Prop :=
 l.length=n∧(0<n→∃b off,A=some ⟨b,off,none⟩∧b<B∧∀j (h:j<l.length),w.cell? ⟨b,off+j,none⟩=some (bv l[j]))
theorem RdB.keep{w w':World}{B:Nat}{A:Option Addr}{n:Nat}{l:List UInt8}(h:RdB w B A n l)(hk:∀p:Addr,p.block<B→w'.cell? p=w.cell? p):RdB w' B A n l :=
 ⟨h.1,fun hn=>by
  obtain⟨b,off,e,hb,hc⟩:=h.2 hn
  exact⟨b,off,e,hb,fun j hj=>(hk _ hb).trans (hc j hj)⟩⟩
theorem RdB.below{w w':World}{B:Nat}{A:Option Addr}{n:Nat}{l:List UInt8}(h:RdB w B A n l)(hb:Below B w w'):RdB w' B A n l:=h.keep fun _ hp=>hb.cell hp
theorem RdB.more{w:World}{B B':Nat}{A:Option Addr}{n:Nat}{l:List UInt8}(h:RdB w B A n l)(hB:B≤B'):RdB w B' A n l :=
 ⟨h.1,fun hn=>by
  obtain⟨b,off,e,hb,hc⟩:=h.2 hn
  exact⟨b,off,e,by omega,hc⟩⟩
theorem RdB.nil{w:World}{B:Nat}{A:Option Addr}:RdB w B A 0 []:=⟨rfl,fun h=>absurd h (by omega)⟩
theorem OwnB.rd{w:World}{base e:Nat}{A:Option Addr}{n c:Nat}{l:List UInt8}(h:OwnB w base e (.slice A n c) l):RdB w w.heap.size A n l:=by
 refine⟨h.len,fun hn=>?_⟩
 rcases h.2 with ⟨h1,h2⟩|⟨g,cap,cur,h1,_⟩
 ·injection h1 with _ h3 _;omega
 injection h1 with h4 _ _
 subst h4
 exact⟨g,0,rfl,(World.ownsRow.lt h g rfl).2,fun j hj=>by rw[Nat.zero_add];exact h.cell hj⟩
theorem OwnB.below{w w':World}{base e:Nat}{v:Value}{l:List UInt8}(h:OwnB w base e v l){B:Nat}(hB:w.heap.size≤B)(hb:Below B w w'):OwnB w' base e v l:=by
 refine⟨h.1,?_⟩
 rcases h.2 with hn|⟨g,cap,cur,h1,h2,h3,h4⟩
 ·exact .inl hn
 refine .inr ⟨g,cap,cur,h1,h2,?_,h4⟩
 rw[hb.block g (by have:=(Array.getElem?_eq_some_iff.1 h3).1;omega)]
 exact h3
theorem OwnB.base_le{w:World}{base base' e:Nat}{v:Value}{l:List UInt8}(h:OwnB w base e v l)(hb:base'≤base):OwnB w base' e v l:=by
 refine⟨h.1,?_⟩
 rcases h.2 with hn|⟨g,cap,cur,h1,h2,h3⟩
 ·exact .inl hn
 exact .inr ⟨g,cap,cur,h1,by omega,h3⟩
theorem RdB.alloc{w:World}{B:Nat}{A:Option Addr}{n:Nat}{l:List UInt8}(h:RdB w B A n l)(hB:B≤w.heap.size)(o:Obj):RdB (w.alloc o) B A n l :=
 h.keep fun p hp=>World.cell?_alloc_lt w o p (by omega)
def strB(l:List UInt8):ByteArray:=⟨l.toArray⟩
@[go_sem] theorem strB_toList (l:List UInt8):(strB l).toList=l:=by rw[ByteArray.toList_eq];simp[strB]
theorem strB_size(l:List UInt8):(strB l).size=l.length:=by simp[strB,ByteArray.size]
theorem strB_data(s:ByteArray):strB s.data.toList=s:=by simp[strB]
theorem strOf_bytes(l:List UInt8):strOfNums (l.map fun b=>(b.toNat:Int))=strB l:=by
 unfold strOfNums strB
 congr 1
 rw[List.map_map]
 congr 1
 conv=>rhs;rw[←List.map_id l]
 refine List.map_congr_left fun b _=>?_
 simp
theorem run_str{P:Program}{t e:TypeId}(T:ByteTy P t e){w:World}{B:Nat}{A:Option Addr}{n:Nat}{l:List UInt8}(h:RdB w B A n l)(c:Nat)(d:TypeId)(hd:P.underlying d=some .string) :
  (convert t d (.slice A n c)).run P w=.ok (.string (strB l)) w:=by
 rcases Nat.eq_zero_or_pos n with h0|h0
 ·have hl:l=[]:=List.eq_nil_of_length_eq_zero (by rw[h.1,h0])
  subst hl h0
  rcases A with _|ad
  ·exact run_convert_bytes_nil w t e T.sl T.el 0 c d hd
  rw[run_convert_bytes_string w t d e _ 0 c T.sl T.el hd]
  have:=run_bytesToString (P:=P) w ad 0 c [] (by simp[loadCells,loadCellsFrom])
  exact this
 obtain⟨b,off,rfl,_,hc⟩:=h.2 h0
 have:=run_convert_bytes_arg (P:=P) w t e T.sl T.el b off n c (l.map fun b=>(b.toNat:Int)) (by rw[List.length_map];exact h.1)
  (fun i hi=>by rw[hc i (by rw[h.1];exact hi)];simp[bv,List.getD_eq_getElem?_getD,show i<l.length from by rw[h.1];exact hi]) d hd
 rw[this,strOf_bytes]
theorem OwnB.form{w:World}{base e:Nat}{v:Value}{k:Nat}{l:List UInt8}(h:w.ownsRow base e 1 v k (bvs l)):∃A c,v=.slice A k c:=by
 rcases h.2 with ⟨h1,h2⟩|⟨g,cap,cur,h1,_⟩
 ·exact⟨none,0,by rw[h1,h2]⟩
 exact⟨_,_,h1⟩
def Blk(w:World)(g t:Nat)(cs:List Value):Prop:=w.heap[g]?=some (.cells cs.toArray t (0,0))
section
variable {w w':World} {g t:Nat} {cs:List Value}
theorem Blk.lt(h:Blk w g t cs):g<w.heap.size:=(Array.getElem?_eq_some_iff.1 h).1
theorem Blk.cell(h:Blk w g t cs)(i:Nat):w.cell? ⟨g,i,none⟩=cs[i]?:=by
 rw[cell_of_row w g i cs.toArray t (0,0) h]
 simp
theorem Blk.frozen(h:Blk w g t cs)(i:Nat):w.frozen? ⟨g,i,none⟩=false:=by
 unfold Blk at h
 simp[World.frozen?,h]
theorem Blk.new(w:World)(t:Nat)(cs:Array Value):Blk (w.alloc (.cells cs t)) w.heap.size t cs.toList:=by
 unfold Blk
 rw[Array.toArray_toList]
 exact heap_alloc_new w _
theorem Blk.drew(h:Blk w g t cs):Blk w.drew g t cs:=h
theorem Blk.drewN(h:Blk w g t cs)(n:Nat):Blk (w.drewN n) g t cs:=h
theorem Blk.alloc(h:Blk w g t cs)(o:Obj):Blk (w.alloc o) g t cs:=(Below.heap_alloc w o g h.lt).trans h
theorem Blk.set(h:Blk w g t cs)(i:Nat)(u:Value):Blk (w.setCell ⟨g,i,none⟩ u) g t (cs.set i u):=by
 unfold Blk at h ⊢
 simp[World.setCell,Array.getElem?_modify,h]
theorem Blk.far(h:Blk w g t cs){p:Addr}(hp:g≠p.block)(u:Value):Blk (w.setCell p u) g t cs:=(Below.heap_setCell w p u g hp).trans h
theorem Blk.below{B:Nat}(h:Blk w g t cs)(hb:Below B w w')(hg:g<B):Blk w' g t cs:=(hb.block g hg).trans h
theorem Blk.grown{row:Option Nat}(h:Blk w g t cs)(hb:w.grownBy w' row)(hg:some g≠row):Blk w' g t cs:=(hb.block g h.lt hg).trans h
end
theorem Blk.byte{w:World}{g t:Nat}{l:List UInt8}(h:Blk w g t (bvs l)){i:Nat}(hi:i<l.length):w.cell? ⟨g,i,none⟩=some (bv l[i]):=by
 rw[h.cell]
 simp[bvs,hi]
def at8(l:List UInt8)(i:Nat):UInt8:=l.getD i 0
theorem load_blk{P:Program}{ops:Array Oper}{rest:List Oper}{o:Oper}{a:Act}{Q:Exit→Act→World→Prop}{w:World}{g t:Nat}{cs:List Value}(h:Blk w g t cs)
  (hgd:o.guard=none) (ty:TypeId) (x:Operand) (ho:o.op=.load ty x) (hx:a.eval x=.pointer (some ⟨g,0,none⟩)) {d:TypeDesc} (hu:P.underlying ty=some d) (hi:(P.info? ty).map (·.size)=some cs.length)
  (hK:wpList P ops Q rest (a.put o.dst (.agg cs.toArray)) w) (hd:d.isRow=true:=by rfl):wpList P ops Q (o::rest) a w :=
 by cases d<;>first|exact wpList_load_row hgd ty x ho g hx t cs.toArray (0,0) _ h hu rfl (by simpa using hi) hK|cases hd
theorem store_blk{P:Program}{ops:Array Oper}{rest:List Oper}{o:Oper}{a:Act}{Q:Exit→Act→World→Prop}{w:World}{g t:Nat}{cs:List Value}(h:Blk w g t cs)
  (hgd:o.guard=none) (ty:TypeId) (x y:Operand) (ho:o.op=.store ty x y) (hx:a.eval x=.pointer (some ⟨g,0,none⟩)) {us:List Value} (hy:a.eval y=.agg us.toArray)
  (hi:(P.info? ty).map (·.size)=some us.length) (hl:cs.length=us.length) (h1:us.all (·.oneCell')=true)
  (hK:∀w',Blk w' g t us→w.grownBy w' (some g)→wpList P ops Q rest (a.put o.dst undef) w'):wpList P ops Q (o::rest) a w:=by
 refine wpList_store_row hgd ty x y ho g us.toArray hx hy t cs.toArray h (by simpa using hi) (by simpa using hl) (by rw[List.all_toArray];exact h1) (hK _ ?_ ?_)
 ·unfold Blk
  exact setRow_heap w g cs.toArray us.toArray t (0,0) h
 exact⟨rfl,rfl,rfl,by simp,fun k _ hk=>setRow_other w g k _ (fun e=>hk (by rw[e]))⟩
theorem wp_store_blk{P:Program}{o:Oper}{a:Act}{K:Act→World→Prop}{Q:Exit→Act→World→Prop}{w:World}{g t:Nat}{cs:List Value}(h:Blk w g t cs)
  (ty:TypeId) (x y:Operand) (ho:o.op=.store ty x y) (hx:a.eval x=.pointer (some ⟨g,0,none⟩)) {us:List Value} (hy:a.eval y=.agg us.toArray)
  (hi:(P.info? ty).map (·.size)=some us.length) (hl:cs.length=us.length) (h1:us.all (·.oneCell')=true)
  (hK:∀w',Blk w' g t us→w.grownBy w' (some g)→K (a.put o.dst undef) w'):o.wp P a w K Q:=by
 refine wp_store_row ty x y ho g us.toArray hx hy t cs.toArray h (by simpa using hi) (by simpa using hl) (by rw[List.all_toArray];exact h1) (hK _ ?_ ?_)
 ·unfold Blk
  exact setRow_heap w g cs.toArray us.toArray t (0,0) h
 exact⟨rfl,rfl,rfl,by simp,fun k _ hk=>setRow_other w g k _ (fun e=>hk (by rw[e]))⟩
theorem Blk.sized{w:World}{g t:Nat}{cs:List Value}(h:Blk w g t cs){fn:Func}{p:Tmp}{ty:TypeId}(hf:fn.results=#[.cell p ty])(tmps:Array Value){P:Program}(hp:tmps.getD p undef=.pointer (some ⟨g,0,none⟩)){d:TypeDesc}
  (hu:P.underlying ty=some d) (hi:(P.info? ty).map (·.size)=some cs.length) (hd:d.isRow=true:=by rfl):(results fn tmps).run P w=.ok (.agg cs.toArray) w :=
 by cases d<;>first|exact results_cell_row hf tmps w g t cs.toArray (0,0) _ hp h hu rfl (by simpa using hi)|cases hd
theorem Blk.range{w:World}{g t:Nat}{cs:List Value}(h:Blk w g t cs)(o n:Nat):w.rangeAt g o ((cs.drop o).take n):=by
 intro j v hv
 rw[h.cell]
 rw[List.getElem?_take] at hv
 split at hv
 ·rwa [List.getElem?_drop] at hv
 cases hv
theorem Blk.setCells{g t:Nat}:∀(us:List Value)(o:Nat)(cs:List Value)(w:World),Blk w g t cs→o+us.length≤cs.length→Blk (w.setCells g o us) g t (cs.take o++us++cs.drop (o+us.length))
 | [],o,cs,w,h,_=>by simpa [World.setCells] using h
 | u::us,o,cs,w,h,hl=>by
  rw[List.length_cons] at hl
  have h1:=Blk.setCells us (o+1) (cs.set o u) (w.setCell ⟨g,o,none⟩ u) (h.set o u) (by rw[List.length_set];omega)
  rw[World.setCells]
  have e:(cs.set o u).take (o+1)++us++(cs.set o u).drop (o+1+us.length)=cs.take o++(u::us)++cs.drop (o+(u::us).length):=by
   rw[List.take_succ_eq_append_getElem (by rw[List.length_set];omega),List.getElem_set_self,List.take_set_of_le (Nat.le_refl _),List.drop_set_of_lt (by omega)]
   simp[Nat.add_comm,Nat.add_left_comm]
  rw[e] at h1
  exact h1
theorem OwnB.cap{w:World}{base e:Nat}{A:Option Addr}{n c:Nat}{l:List UInt8}(h:OwnB w base e (.slice A n c) l):n≤c:=by
 rcases h.2 with ⟨h1,h2⟩|⟨g,cap,cur,h1,h2,h3,h4,h5,h6,h7⟩
 ·injection h1 with _ h3 h4;omega
 injection h1 with h8 h9 h10
 have:=h.len
 omega
def FrB(w:World)(base:Nat)(e:TypeId)(A:Option Addr)(n:Nat)(l:List UInt8):Prop :=
 l.length=n∧(0<n→∃g off cur,A=some ⟨g,off,none⟩∧base≤g∧Blk w g e cur∧(cur.drop off).take n=bvs l)
theorem OwnB.fr{w:World}{base e:Nat}{A:Option Addr}{n c:Nat}{l:List UInt8}(h:OwnB w base e (.slice A n c) l):FrB w base e A n l:=by
 refine⟨h.len,fun hn=>?_⟩
 rcases h.2 with ⟨h1,h2⟩|⟨g,cap,cur,h1,h2,h3,h4,h5,h6,h7⟩
 ·injection h1 with _ h3 _;omega
 injection h1 with h8 h9 _
 subst h8
 refine⟨g,0,cur.toList,rfl,h2,by unfold Blk;rw[Array.toArray_toList];exact h3,?_⟩
 rw[List.drop_zero,←h7,h9,Nat.mul_one]
theorem FrB.rd{w:World}{base e:Nat}{A:Option Addr}{n:Nat}{l:List UInt8}(h:FrB w base e A n l):RdB w w.heap.size A n l:=by
 refine⟨h.1,fun hn=>?_⟩
 obtain⟨g,off,cur,hA,_,hb,hc⟩:=h.2 hn
 refine⟨g,off,hA,hb.lt,fun j hj=>?_⟩
 have h1:(bvs l)[j]?=some (bv l[j]):=by simp[bvs,hj]
 rw[hb.cell,←List.getElem?_drop,←h1,←hc,List.getElem?_take,if_pos (by have:=h.1;omega)]
theorem FrB.below{w w':World}{base e:Nat}{A:Option Addr}{n:Nat}{l:List UInt8}(h:FrB w base e A n l){B:Nat}(hB:w.heap.size≤B)(hb:Below B w w'):FrB w' base e A n l :=
 ⟨h.1,fun hn=>by
  obtain⟨g,off,cur,hA,h1,h2,h3⟩:=h.2 hn
  exact⟨g,off,cur,hA,h1,h2.below hb (by have:=h2.lt;omega),h3⟩⟩
theorem FrB.grown{w w':World}{base e:Nat}{A:Option Addr}{n:Nat}{l:List UInt8}(h:FrB w base e A n l){row:Nat}(hg:w.grownBy w' (some row))(hr:row<base):FrB w' base e A n l :=
 ⟨h.1,fun hn=>by
  obtain⟨g,off,cur,hA,h1,h2,h3⟩:=h.2 hn
  exact⟨g,off,cur,hA,h1,h2.grown hg (by intro e;injection e with e;omega),h3⟩⟩
theorem FrB.drewN{w:World}{base e:Nat}{A:Option Addr}{n:Nat}{l:List UInt8}(h:FrB w base e A n l)(k:Nat):FrB (w.drewN k) base e A n l:=h
theorem FrB.drew{w:World}{base e:Nat}{A:Option Addr}{n:Nat}{l:List UInt8}(h:FrB w base e A n l):FrB w.drew base e A n l:=h
theorem FrB.base_le{w:World}{base base' e:Nat}{A:Option Addr}{n:Nat}{l:List UInt8}(h:FrB w base e A n l)(hb:base'≤base):FrB w base' e A n l :=
 ⟨h.1,fun hn=>by
  obtain⟨g,off,cur,hA,h1,h2,h3⟩:=h.2 hn
  exact⟨g,off,cur,hA,by omega,h2,h3⟩⟩
theorem FrB.take{w:World}{base e:Nat}{A:Option Addr}{n:Nat}{l:List UInt8}(h:FrB w base e A n l){k:Nat}(hk:k≤n):FrB w base e A k (l.take k) :=
 ⟨by rw[List.length_take,h.1];omega,fun hn=>by
  obtain⟨g,off,cur,hA,h1,h2,h3⟩:=h.2 (by omega)
  refine⟨g,off,cur,hA,h1,h2,?_⟩
  have:bvs (l.take k)=(bvs l).take k:=by simp[bvs]
  rw[this,←h3,List.take_take,Nat.min_eq_left hk]⟩
theorem FrB.drop{w:World}{base e:Nat}{g off n:Nat}{l:List UInt8}(h:FrB w base e (some ⟨g,off,none⟩) n l){k:Nat}(hk:k≤n):FrB w base e (some ⟨g,off+k,none⟩) (n-k) (l.drop k) :=
 ⟨by rw[List.length_drop,h.1],fun hn=>by
  obtain⟨g',off',cur,hA,h1,h2,h3⟩:=h.2 (by omega)
  injection hA with hA
  injection hA with e1 e2
  subst e1 e2
  refine⟨_,_,cur,rfl,h1,h2,?_⟩
  have:bvs (l.drop k)=(bvs l).drop k:=by simp[bvs]
  rw[this,←h3,List.drop_take,List.drop_drop]⟩
theorem abs{P:Program}{cd:Code}{Q:Exit→Act→World→Prop}{a:Act}{W:World}(F:World→Prop)(hF:F W)(h:∀w1,F w1→Code.wp P cd Q a w1):Code.wp P cd Q a W:=h W hF
theorem absC{P:Program}{f:FuncId}{args:Array Value}{R:Ending→World→Prop}{W:World}(F:World→Prop)(hF:F W)(h:∀w1,F w1→Calls P f args w1 R):Calls P f args W R:=h W hF
theorem Blk.newAt{w:World}{g:Nat}(hg:w.heap.size=g)(t:Nat)(cs:Array Value):Blk (w.alloc (.cells cs t)) g t cs.toList:=by
 subst hg
 exact Blk.new w t cs
theorem Blk.of_new(w:World)(t:Nat)(cs:List Value):Blk (w.alloc (.cells cs.toArray t)) w.heap.size t cs:=by
 have:=Blk.new w t cs.toArray
 simpa using this
theorem belowN{B:Nat}{a w:World}(h:Below B a w)(n:Nat):Below B a (w.drewN n):=⟨h.os,h.tape,h.output,h.size,h.block⟩
theorem Blk.rdB{w:World}{g t n:Nat}{l:List UInt8}(h:Blk w g t (bvs l))(hn:l.length=n):RdB w w.heap.size (some ⟨g,0,none⟩) n l :=
 ⟨hn,fun _=>⟨g,0,rfl,h.lt,fun j hj=>by rw[Nat.zero_add];exact h.byte hj⟩⟩
end Go.Proofs.YtpcdmbajfmnoiaaGreatDoor
