/- A row of nets that the call owns: read, written, cleared, shortened. No condition. -/
import Derived.Test.YtpcdmbajfmnoiaaGreatDoorAddrAB
import Derived.Test.YtpcdmbajfmnoiaaGreatDoorRowIns
import Derived.Laws.IdiomCopy
import Derived.Lib.LazyBuf
import Derived.ArgAppend
namespace Go.Proofs.YtpcdmbajfmnoiaaGreatDoor
set_option linter.unusedVariables false
set_option linter.unusedSimpArgs false
open Go.RowKit Go.Sort
theorem TC:RowTy Tryz.prog 54 85 2 16 (.agg #[.int .u32 0,.int .i64 0]):=⟨Tryz.underlying54,by kernel_rfl,rfl,by omega⟩
def Rw(w:World)(g c:Nat)(L:List Nt):Prop:=∃cur:List Value,Blk w g 85 cur∧cur.length=c*2∧c≤maxLen∧L.length≤c∧cur.take (L.length*2)=flatR ntC L
theorem Rw.lt{w:World}{g c:Nat}{L:List Nt}(h:Rw w g c L):g<w.heap.size:=by obtain⟨cur,h1,_⟩:=h;exact h1.lt
theorem Rw.fits{w:World}{g c:Nat}{L:List Nt}(h:Rw w g c L):L.length≤c:=by obtain⟨cur,_,_,_,h1,_⟩:=h;exact h1
theorem Rw.below{w w':World}{g c B:Nat}{L:List Nt}(h:Rw w g c L)(hb:Below B w w')(hg:g<B):Rw w' g c L:=by
 obtain⟨cur,h1,h2⟩:=h
 exact⟨cur,h1.below hb hg,h2⟩
theorem Rw.drewN{w:World}{g c:Nat}{L:List Nt}(h:Rw w g c L)(n:Nat):Rw (w.drewN n) g c L:=h
theorem Rw.own{w:World}{g c base:Nat}{L:List Nt}(h:Rw w g c L)(hg:base≤g):OwnR ntC 2 w base 85 (.slice (some ⟨g,0,none⟩) L.length c) L:=by
 obtain⟨cur,h1,h2,h3,h4,h5⟩:=h
 refine⟨by rw[flatR_length ntC_len],.inr ⟨g,c,cur.toArray,rfl,hg,h1,h4,h3,by simpa using h2,by simpa using h5⟩⟩
theorem Rw.cells{w:World}{g c:Nat}{L:List Nt}(h:Rw w g c L)(j:Nat)(hj:j<c*2):(w.cell? ⟨g,j,none⟩).isSome=true∧w.frozen? ⟨g,j,none⟩=false:=by
 obtain⟨cur,h1,h2,_⟩:=h
 refine⟨?_,h1.frozen _⟩
 rw[h1.cell,List.getElem?_eq_getElem (by omega)]
 rfl
theorem Rw.at_{w:World}{g c j:Nat}{L:List Nt}(h:Rw w g c L)(hj:j<L.length):w.cell? ⟨g,j*2,none⟩=some (.int .u32 (L[j].1:Int))∧w.cell? ⟨g,j*2+1,none⟩=some (.int .i64 L[j].2):=by
 obtain⟨cur,h1,h2,h3,h4,h5⟩:=h
 have hc:∀i,i<2→cur[j*2+i]?=(ntC L[j])[i]?:=by
  intro i hi
  rw[←flatR_at ntC_len L j hj i hi,←h5,List.getElem?_take,if_pos (by omega)]
 exact⟨by rw[h1.cell];exact hc 0 (by omega),by rw[h1.cell];exact hc 1 (by omega)⟩
theorem Rw.take{w:World}{g c:Nat}{L:List Nt}(h:Rw w g c L)(m:Nat):Rw w g c (L.take m):=by
 obtain⟨cur,h1,h2,h3,h4,h5⟩:=h
 refine⟨cur,h1,h2,h3,by rw[List.length_take];omega,?_⟩
 rw[←flatR_take ntC_len,←h5,List.take_take,List.length_take]
 congr 1
 omega
theorem flatR_set(L:List Nt)(i:Nat)(x:Nt):flatR ntC (L.set i x)=((flatR ntC L).set (i*2) (.int .u32 (x.1:Int))).set (i*2+1) (.int .i64 x.2):=by
 induction L generalizing i with
 | nil=>rfl
 | cons y L ih =>
  cases i with
  | zero=>rfl
  | succ i =>
   rw[List.set_cons_succ]
   show ntC y++flatR ntC (L.set i x)=_
   rw[ih]
   show _=((ntC y++flatR ntC L).set ((i+1)*2) _).set ((i+1)*2+1) _
   rw[List.set_append_right _ _ (by rw[ntC_len];omega),List.set_append_right _ _ (by rw[ntC_len];omega),ntC_len,show (i+1)*2-2=i*2 by omega,show (i+1)*2+1-2=i*2+1 by omega]
theorem Rw.set{w:World}{g c i:Nat}{L:List Nt}(h:Rw w g c L)(hi:i<L.length)(x:Nt):Rw ((w.setCell ⟨g,i*2,none⟩ (.int .u32 (x.1:Int))).setCell ⟨g,i*2+1,none⟩ (.int .i64 x.2)) g c (L.set i x):=by
 obtain⟨cur,h1,h2,h3,h4,h5⟩:=h
 refine⟨_,(h1.set _ _).set _ _,by rw[List.length_set,List.length_set];exact h2,h3,by rw[List.length_set];exact h4,?_⟩
 rw[List.length_set,List.take_set,List.take_set,h5,flatR_set]
theorem Rw.tail{w:World}{g c m o:Nat}{L:List Nt}(h:Rw w g c L)(hm:m≤L.length)(us:List Value)(ho:m*2≤o)(hu:o+us.length≤c*2):Rw (w.setCells g o us) g c (L.take m):=by
 obtain⟨cur,h1,h2,h3,h4,h5⟩:=h
 refine⟨_,h1.setCells us o cur w (by omega),?_,h3,by rw[List.length_take];omega,?_⟩
 ·rw[List.length_append,List.length_append,List.length_take,List.length_drop];omega
 rw[List.length_take,Nat.min_eq_left hm,List.append_assoc,List.take_append_of_le_length (by rw[List.length_take];omega),List.take_take,Nat.min_eq_left ho,←flatR_take ntC_len,←h5,List.take_take,Nat.min_eq_left (by omega)]
theorem Rw.erase{w:World}{g c i:Nat}{L:List Nt}(h:Rw w g c L)(hi:i<L.length):Rw (w.setCells g (i*2) (flatR ntC (L.drop (i+1)))) g c (L.eraseIdx i):=by
 obtain⟨cur,h1,h2,h3,h4,h5⟩:=h
 have hl:(flatR ntC (L.drop (i+1))).length=(L.length-(i+1))*2:=by rw[flatR_length ntC_len,List.length_drop]
 have he:L.eraseIdx i=L.take i++L.drop (i+1):=List.eraseIdx_eq_take_drop_succ ..
 have hle:(L.eraseIdx i).length=L.length-1:=by rw[List.length_eraseIdx,if_pos hi]
 refine⟨_,Blk.setCells (flatR ntC (L.drop (i+1))) (i*2) cur w h1 (by omega),?_,h3,by omega,?_⟩
 ·rw[List.length_append,List.length_append,List.length_take,List.length_drop,hl];omega
 have e1:cur.take (i*2)=flatR ntC (L.take i):=by rw[←flatR_take ntC_len,←h5,List.take_take,Nat.min_eq_left (by omega)]
 rw[hle,he,flatR_append,←e1]
 rw[List.take_append_of_le_length (by rw[List.length_append,List.length_take,hl];omega),List.take_of_length_le (by rw[List.length_append,List.length_take,hl];omega)]
theorem Rw.setCell{w:World}{g c:Nat}{L:List Nt}{p:Addr}(h:Rw w g c L)(hp:g≠p.block)(u:Value):Rw (w.setCell p u) g c L:=by
 obtain⟨cur,h1,h2⟩:=h
 exact⟨cur,h1.far hp u,h2⟩
theorem Rw.cut{w:World}{g c i m cc:Nat}{L:List Nt}(h:Rw w g c L)(hl:L.length=m+1)(hi:i≤m)(a:Addr)(ha:i<m→a=⟨g,(i+1)*2,none⟩) :
  ∃W,(∀ty,(Builtin.append_ #[54,54] ty #[.slice (some ⟨g,0,none⟩) i c,.slice (some a) (m-i) cc]).run Tryz.prog w=.ok (.slice (some ⟨g,0,none⟩) m c) W)∧Rw W g c (L.eraseIdx i)∧Below g w W:=by
 obtain⟨I,hI,hz0,hz1,hz2⟩:=info_parts TC.info
 have hf:=h.fits
 have hll:(flatR ntC (L.drop (i+1))).length=(m-i)*2:=by rw[flatR_length ntC_len,List.length_drop];omega
 refine⟨_,fun ty=>?_,h.erase (by omega),_root_.Go.below_setCells (Nat.le_refl g) _ _ _ (Below.refl _ _)⟩
 have hr:=run_append_room_cells (P:=Tryz.prog) w 54 ty 85 I TC.sl hI g 0 i c a (m-i) cc (flatR ntC (L.drop (i+1))) (by rw[hll,hz1]) ?_ (flatR_one ntC_one _) (by omega) (fun j hj=>(h.cells _ (by rw[hz1];omega)).1) (fun j hj=>(h.cells _ (by rw[hz1];omega)).2)
 ·rw[hr,hz1,Nat.zero_add,show i+(m-i)=m by omega]
 intro j u hu
 have hj:=(List.getElem?_eq_some_iff.1 hu).1
 rw[ha (by omega)]
 obtain⟨cur,h1,h2,h3,h4,h5⟩:=h
 rw[←flatR_drop ntC_len,List.getElem?_drop,←h5,List.getElem?_take,if_pos (by omega)] at hu
 rw[Addr.add_lit,h1.cell]
 exact hu
end Go.Proofs.YtpcdmbajfmnoiaaGreatDoor
