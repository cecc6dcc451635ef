/- Sorted numbers, struck of their doubles: as many as there were just if no two are the same. No condition. slices.Clone, Sort, Compact of a target's ports. Conditions: a million at most. policy.target. Conditions: sizes. Printed by gen_ptarget.py. policy.all at Source, Target, When, Rule; policy.MayRule. Conditions: sizes. Printed by gen_prule.py. policy.May. Conditions: sizes. Printed by gen_ppo.py. -/
import Derived.Lib.SlicesCompact
import Derived.Lib.RowBridge
import Derived.Test.YtpcdmbajfmnoiaaGreatDoorPolTNW
import Derived.Test.YtpcdmbajfmnoiaaGreatDoorShelf
import Derived.Lib.OwnBridge
import Derived.Test.YtpcdmbajfmnoiaaGreatDoorOrder
import Derived.BigQuiet
namespace Go.Proofs.YtpcdmbajfmnoiaaGreatDoor
set_option linter.unusedVariables false
set_option linter.unusedSimpArgs false
theorem keeps_iff(d:Array Int)(j:Nat):Lib.keeps d j=false↔0<j∧d[j]! =d[j-1]! :=by
 constructor
 ·intro h
  rcases Nat.eq_zero_or_pos j with e|e
  ·subst e
   rw[Lib.keeps_lt_one d 0 (by omega)] at h
   cases h
  refine⟨e,Classical.byContradiction fun hne=>?_⟩
  rw[Lib.keeps_pos hne] at h
  cases h
 rintro ⟨h1,h2⟩
 exact Lib.keeps_neg h1 h2
theorem filter_len{α:Type}(f:α→Bool)(L:List α):(L.filter f).length=L.length↔∀x∈L,f x=true:=by
 rw[List.length_filter_eq_length_iff]
theorem compact_len(Y:List Int)(h:Y.Pairwise (·≤·)):(Lib.compact Y).length=Y.length↔Y.Nodup:=by
 unfold Lib.compact Lib.compactUpTo
 rw[List.length_map]
 have e:((List.range Y.length).filter (Lib.keeps Y.toArray)).length=Y.length↔∀j,j<Y.length→Lib.keeps Y.toArray j=true:=by
  have:=filter_len (Lib.keeps Y.toArray) (List.range Y.length)
  rw[List.length_range] at this
  rw[this]
  constructor
  ·exact fun h j hj=>h j (List.mem_range.2 hj)
  exact fun h j hj=>h j (List.mem_range.1 hj)
 rw[e]
 have hg:∀j (hj:j<Y.length),Y.toArray[j]! =Y[j]:=by
  intro j hj
  simp[hj]
 constructor
 ·intro hk
  unfold List.Nodup
  rw[List.pairwise_iff_getElem]
  intro i j hi hj hij he
  have h1:=List.pairwise_iff_getElem.1 h
  have hkj:=hk j hj
  have:Lib.keeps Y.toArray j=false:=by
   rw[keeps_iff]
   refine⟨by omega,?_⟩
   rw[hg j hj,hg (j-1) (by omega)]
   have h2:Y[j-1]≤Y[j]:=h1 (j-1) j (by omega) hj (by omega)
   have h3:Y[i]≤Y[j-1]:=by
    by_cases h4:i=j-1
    ·subst h4;exact Int.le_refl _
    exact h1 i (j-1) hi (by omega) (by omega)
   omega
  rw[this] at hkj
  cases hkj
 intro hn j hj
 rcases hk:Lib.keeps Y.toArray j with _|_
 ·rw[keeps_iff] at hk
  obtain⟨h1,h2⟩:=hk
  rw[hg j hj,hg (j-1) (by omega)] at h2
  unfold List.Nodup at hn
  have:=List.pairwise_iff_getElem.1 hn (j-1) j (by omega) hj (by omega)
  exact absurd h2.symm this
 rfl
open Go.RowKit Go.Sort
def Hp(b:Nat)(u:World)(P:Option Addr)(n:Nat)(Z:List Int):Prop:=Z.length=n∧(0<n→∃g,P=some ⟨g,0,none⟩∧b≤g∧g<u.heap.size∧Holds (Value.int .i64) u g 0 Z.toArray)
theorem Hp.below{b:Nat}{u v:World}{P:Option Addr}{n:Nat}{Z:List Int}(h:Hp b u P n Z)(hb:Below u.heap.size u v):Hp b v P n Z :=
 ⟨h.1,fun hn=>by
  obtain⟨g,h1,h2,h3,h4⟩:=h.2 hn
  refine⟨g,h1,h2,Nat.lt_of_lt_of_le h3 hb.size,fun j hj=>?_⟩
  obtain⟨h5,h6⟩:=h4 j hj
  refine⟨(hb.cell (p:=⟨g,0+j,none⟩) h3).trans h5,?_⟩
  rw[←h6]
  unfold World.frozen?
  simp only[hb.block g h3]⟩
theorem RdR.ints{w:World}{B n:Nat}{A:Option Addr}{L:List Int}(h:RdR inC 1 w B A n L)(hn:0<n):∃b off,A=some ⟨b,off,none⟩∧∀j,j<L.length→w.cell? ⟨b,off+j,none⟩=some (.int .i64 (L.getD j 0)):=by
 obtain⟨b,off,h1,h2,h3⟩:=h.2 hn
 refine⟨b,off,h1,fun j hj=>?_⟩
 have:=h3 j hj 0 _ rfl
 rw[Nat.mul_one,Nat.add_zero] at this
 rw[this,List.getD_eq_getElem?_getD,List.getElem?_eq_getElem hj]
 rfl
theorem own_hp{b n:Nat}{w:World}{v:Value}{L:List Int}(h:w.ownsRow b 3 1 v n (L.map (Value.int .i64)))(hl:L.length=n):∃P c,v=.slice P n c∧n≤c∧Hp b w P n L:=by
 rcases h.2 with ⟨h1,h2⟩|⟨g,cap,cur,h1,h2,h3,h4,h5,h6,h7⟩
 ·subst h1
  exact⟨none,0,by rw[h2],by omega,hl,fun hn=>by omega⟩
 refine⟨_,_,h1,h4,hl,fun hn=>?_⟩
 have hg:=(Array.getElem?_eq_some_iff.1 h3).1
 refine⟨g,rfl,h2,hg,fun j hj=>?_⟩
 have hb:Blk w g 3 cur.toList:=by unfold Blk;rw[Array.toArray_toList];exact h3
 refine⟨?_,hb.frozen _⟩
 rw[List.size_toArray] at hj
 rw[hb.cell,Nat.zero_add]
 have h8:(List.take (n*1) cur.toList)[j]?=(L.map (Value.int .i64))[j]?:=by rw[h7]
 rw[List.getElem?_take,if_pos (by omega)] at h8
 rw[h8,List.getElem?_map,List.getElem?_eq_getElem hj]
 simp[hj]
theorem clonePorts(A:Option Addr)(n c:Nat)(L:List Int)(w:World)(h:RdR inC 1 w w.heap.size A n L)(hn:n≤1000000) :
  Calls Tryz.prog 108 #[.slice A n c] w fun e w'=>∃P c',e=.returned (.slice P n c')∧n≤c'∧Hp w.heap.size w' P n L∧Below w.heap.size w w':=by
 have hl:=h.1
 rcases Nat.eq_zero_or_pos n with h0|h0
 ·subst h0
  have hL:L=[]:=List.eq_nil_of_length_eq_zero hl
  subst hL
  rcases A with _|a
  ·refine (slices_Clone_int_nil 0 c w).mono ?_
   rintro e w' ⟨rfl,rfl⟩
   exact⟨none,0,rfl,Nat.le_refl _,⟨rfl,fun h=>absurd h (by omega)⟩,Below.refl _ _⟩
  refine (slices_Clone_int_zero a c w).mono ?_
  rintro e w' ⟨v',rfl,ho,_,hb⟩
  obtain⟨P,c',rfl,h2,h3⟩:=own_hp (L:=[]) ho rfl
  exact⟨P,c',rfl,h2,h3,hb⟩
 obtain⟨b,off,rfl,hc⟩:=h.ints h0
 refine (slices_Clone_int b off n c L w (by omega) (by omega) hc).mono ?_
 rintro e w' ⟨v',rfl,ho,_,hb⟩
 rw[List.take_of_length_le (by omega)] at ho
 obtain⟨P,c',rfl,h2,h3⟩:=own_hp ho hl
 exact⟨P,c',rfl,h2,h3,hb⟩
theorem sortPorts(b:Nat)(P:Option Addr)(n c:Nat)(Z:List Int)(w:World)(h:Hp b w P n Z)(hn:n≤1000000)(hbw:b≤w.heap.size) :
  Calls Tryz.prog 109 #[.slice P n c] w fun e w'=>e=.returned (.tuple #[])∧∃Y:List Int,Y.Perm Z∧Y.Pairwise (·≤·)∧Hp b w' P n Y∧Below b w w':=by
 have hl:=h.1
 rcases Nat.eq_zero_or_pos n with h0|h0
 ·subst h0
  have hL:Z=[]:=List.eq_nil_of_length_eq_zero hl
  subst hL
  refine (slices_Sort_int_none P c w).mono ?_
  rintro e w' ⟨rfl,rfl⟩
  exact⟨rfl,[],List.Perm.refl _,List.Pairwise.nil,h,Below.refl _ _⟩
 obtain⟨g,rfl,h1,h2,h3⟩:=h.2 h0
 subst hl
 refine (slices_Sort_int g 0 c Z w h3 h2 (by omega)).mono ?_
 rintro e w' ⟨rfl,m,os,rfl⟩
 have hp:(Z.mergeSort fun x y=>decide (x≤y)).Perm Z:=List.mergeSort_perm _ _
 have hlen:=hp.length_eq
 have hs:(Z.mergeSort fun x y=>decide (x≤y)).Pairwise (·≤·):=by
  have:=List.pairwise_mergeSort (le:=fun x y:Int=>decide (x≤y)) (by intro a b c h1 h2;simp at h1 h2 ⊢;omega) (by intro a b;simp;omega) Z
  exact this.imp fun h=>by simpa using h
 generalize (Z.mergeSort fun x y=>decide (x≤y))=Y at *
 have hH:Holds (Value.int .i64) (Sort.ahead w m) g 0 Z.toArray:=h3
 have hY:=holds_putRow (Value.int .i64) (Sort.ahead w m) g 0 Z.toArray Y.toArray hH (by simpa using hlen)
 have hsz:(putRow (Value.int .i64) (Sort.ahead w m) g 0 Y.toArray).heap.size=w.heap.size:=by rw[size_putRow];rfl
 have f1:Below b w (putRow (Value.int .i64) (Sort.ahead w m) g 0 Y.toArray):=Lib.below_putRow (enc:=Value.int .i64) (Below.refl _ _) h1
 have f2:Below b w (grow (putRow (Value.int .i64) (Sort.ahead w m) g 0 Y.toArray) os):=by
  refine⟨f1.os,f1.tape,f1.output,Nat.le_trans f1.size (by simp[grow]),fun k hk=>?_⟩
  rw[←f1.block k hk]
  simp[grow,Array.getElem?_append,show k<w.heap.size by omega]
 refine⟨rfl,Y,hp,hs,⟨hlen,fun _=>⟨g,rfl,h1,by simp[grow];omega,fun j hj=>?_⟩⟩,f2⟩
 have hg:Below (putRow (Value.int .i64) (Sort.ahead w m) g 0 Y.toArray).heap.size (putRow (Value.int .i64) (Sort.ahead w m) g 0 Y.toArray) (grow (putRow (Value.int .i64) (Sort.ahead w m) g 0 Y.toArray) os):=by
  refine⟨rfl,rfl,rfl,by simp[grow],fun k hk=>?_⟩
  simp only[grow]
  rw[Array.getElem?_append,if_pos (by omega)]
 obtain⟨h5,h6⟩:=hY j hj
 refine⟨(hg.cell (p:=⟨g,0+j,none⟩) (by show g<_;omega)).trans h5,?_⟩
 rw[←h6]
 unfold World.frozen?
 simp only[hg.block g (by omega)]
theorem compactPorts(b:Nat)(P:Option Addr)(n c:Nat)(Y:List Int)(w:World)(h:Hp b w P n Y)(hn:n≤1000000)(hc:n≤c) :
  Calls Tryz.prog 112 #[.slice P n c] w fun e w'=>e=.returned (.slice P (Lib.compact Y).length c)∧Below b w w':=by
 have hl:=h.1
 rcases Nat.eq_zero_or_pos n with h0|h0
 ·subst h0
  have hL:Y=[]:=List.eq_nil_of_length_eq_zero hl
  subst hL
  refine (slices_Compact_int_empty P c w).mono ?_
  rintro e w' ⟨rfl,rfl⟩
  exact⟨rfl,Below.refl _ _⟩
 obtain⟨g,rfl,h1,h2,h3⟩:=h.2 h0
 subst hl
 refine (slices_Compact_int g 0 c Y w h3 (by omega) hc).mono ?_
 rintro e w' ⟨rfl,q,rfl⟩
 exact⟨rfl,Lib.below_putRow (enc:=Value.int .i64) (Below.refl _ _) h1⟩
def TgS(s:Nat)(v1 v2 v3 v4:Value)(u:World):Prop:=u.cell? ⟨s,0,none⟩=some v1∧u.cell? ⟨s,1,none⟩=some v2∧u.cell? ⟨s,2,none⟩=some v3∧u.cell? ⟨s,3,none⟩=some v4
theorem TgS.low{s b:Nat}{v1 v2 v3 v4:Value}{u v:World}(h:TgS s v1 v2 v3 v4 u)(hb:Below b u v)(hs:s<b:=by omega):TgS s v1 v2 v3 v4 v :=
 ⟨(hb.cell (p:=⟨s,0,none⟩) hs).trans h.1,(hb.cell (p:=⟨s,1,none⟩) hs).trans h.2.1,(hb.cell (p:=⟨s,2,none⟩) hs).trans h.2.2.1,(hb.cell (p:=⟨s,3,none⟩) hs).trans h.2.2.2⟩
theorem TgS.below{s:Nat}{v1 v2 v3 v4:Value}{u v:World}(h:TgS s v1 v2 v3 v4 u)(hb:Below u.heap.size u v):TgS s v1 v2 v3 v4 v:=h.low hb (World.block_lt_of_cell? u _ h.1)
set_option maxRecDepth 100000 in
set_option maxHeartbeats 4000000 in
theorem target_any(t:Tg)(cs:List Value)(w:World)(h:TgP w w.heap.size cs t)(hok:okTg t) :
  Calls Tryz.prog 68 #[.agg cs.toArray] w fun e w'=>e=.returned (.bool (tgMay t))∧Below w.heap.size w w':=by
 obtain⟨A1,n1,c1,A2,n2,c2,A3,n3,c3,A4,n4,c4,rfl,h1,h2,h3,h4⟩:=vals_tg h
 obtain⟨v1,v2,v3,v4,hv,t1,t2,t3,t4⟩:=h
 injection hv with g1 hv
 injection hv with g2 hv
 injection hv with g3 hv
 injection hv with g4 hv
 subst g1 g2 g3 g4
 obtain⟨⟨k0,_⟩,k2,k3,k4⟩:=hok
 have l1:=h1.1
 obtain⟨p,hp⟩:∃p,rowsMay [t.methods,t.paths,t.hosts]=p:=⟨_,rfl⟩
 obtain⟨q,hq⟩:∃q,(decide (t.ports.length≤6)&&t.ports.all portMay)=q:=⟨_,rfl⟩
 obtain⟨z,hz⟩:∃z,decide t.ports.Nodup=z:=⟨_,rfl⟩
 have he:tgMay t=(p&&(q&&z)):=by rw[←hp,←hq,←hz];rfl
 rw[he]
 show Calls Tryz.prog 68 #[.agg #[.slice A1 n1 c1,.slice A2 n2 c2,.slice A3 n3 c3,.slice A4 n4 c4]] w _
 obtain⟨wb,hwb⟩:∃wb,w.alloc (.cells #[.slice A1 n1 c1,.slice A2 n2 c2,.slice A3 n3 c3,.slice A4 n4 c4] 45)=wb:=⟨_,rfl⟩
 have f0:Below w.heap.size w wb:=by rw[←hwb];exact (Below.refl _ _).alloc (Nat.le_refl _) _
 have hwl:w.heap.size<wb.heap.size:=by rw[←hwb];simp
 have bl:=Blk.newAt (w:=w) rfl 45 #[.slice A1 n1 c1,.slice A2 n2 c2,.slice A3 n3 c3,.slice A4 n4 c4]
 rw[hwb] at bl
 have hSb:TgS w.heap.size (.slice A1 n1 c1) (.slice A2 n2 c2) (.slice A3 n3 c3) (.slice A4 n4 c4) wb:=⟨bl.cell 0,bl.cell 1,bl.cell 2,bl.cell 3⟩
 have HROWS:Hid (∀w2,Below w.heap.size w w2→Calls Tryz.prog 104 #[.slice (some ⟨w2.heap.size,0,none⟩) 3 3] (w2.alloc (.cells #[.slice A2 n2 c2,.slice A3 n3 c3,.slice A4 n4 c4] 43)) fun e w'=>e=.returned (.bool p)∧Below (w2.alloc (.cells #[.slice A2 n2 c2,.slice A3 n3 c3,.slice A4 n4 c4] 43)).heap.size (w2.alloc (.cells #[.slice A2 n2 c2,.slice A3 n3 c3,.slice A4 n4 c4] 43)) w'):=Lib.hid fun w2 hb=>by
  rw[←hp]
  exact rows_any (some ⟨w2.heap.size,0,none⟩) 3 3 [t.methods,t.paths,t.hosts] _ (by omega) (rows_new (w:=w2) (vs:=[.slice A2 n2 c2,.slice A3 n3 c3,.slice A4 n4 c4]) (R:=[t.methods,t.paths,t.hosts]) _ rfl (fun j hj=>by
   rcases j with _|_|_|j
   ·exact t2.mono hb.size hb
   ·exact t3.mono hb.size hb
   ·exact t4.mono hb.size hb
   ·exact absurd hj (by simp))) (by
   intro L hL
   simp only[List.mem_cons,List.mem_nil_iff,or_false] at hL
   rcases hL with rfl|rfl|rfl
   ·exact k2
   ·exact k3
   exact k4)
 have HALL:Hid (∀w2,Below w.heap.size w w2→Calls Tryz.prog 110 #[.int .i64 6,.slice A1 n1 c1,.func (.func 111) #[] #[]] w2 fun e w'=>e=.returned (.bool q)∧Below w2.heap.size w2 w'):=Lib.hid fun w2 hb=>all_int A1 n1 c1 (prL portMay t.ports) w2 (fun w' hb' j hj=>by
  obtain⟨b,off,r1,r2,r3⟩:=(h1.below (hb.trans (hb'.mono hb.size))).2 (by omega)
  have hj':j<t.ports.length:=by omega
  have r4:=r3 j hj' 0 _ rfl
  rw[Nat.mul_one,Nat.add_zero] at r4
  refine⟨b,off,_,r1,r4,fun w'' _=>?_⟩
  rw[prL_at hj']
  exact mayPort_any _ _) (by rw[←hq,Bool.and_eq_true,decide_eq_true_eq,all_prL l1,l1])
 have hcl:=clonePorts A1 n1 c1 t.ports wb ((h1.below f0).more f0.size) (by omega)
 have HZ:Hid (∀Y:List Int,Y.Perm t.ports→Y.Pairwise (·≤·)→(((Lib.compact Y).length:Int)==(n1:Int))=z):=Lib.hid fun Y h5 h6=>by
  have h7:=compact_len Y h6
  rw[h5.length_eq,l1,h5.nodup_iff] at h7
  rw[←hz]
  by_cases hd:t.ports.Nodup
  ·rw[decide_eq_true hd,beq_iff_eq]
   have:=h7.2 hd
   omega
  rw[decide_eq_false hd,beq_eq_false_iff_ne]
  intro h8
  exact hd (h7.1 (by omega))
 have hle:n1≤1000000:=by omega
 obtain⟨ports,hports⟩:∃L,t.ports=L:=⟨_,rfl⟩
 rw[hports] at hcl HZ
 clear h1 h2 h3 h4 t1 t2 t3 t4 k0 k2 k3 k4 hp hq hz he hv bl hports l1
 have HSb:=Lib.hid hSb;clear hSb
 obtain⟨e0,e1,e2,e3⟩:=HSb.out
 go_enter Tryz.func68,Tryz.ntmps68
 go_wp2_with fail
 refine hcl.mono ?_
 rintro e w2 ⟨P,c',rfl,hc',hP,f2⟩
 clear e0 e1 e2 e3 hwb
 go_wp2_with fail
 refine (sortPorts wb.heap.size P n1 c' ports w2 hP hle f2.size).mono ?_
 rintro e w3 ⟨rfl,Y,hperm,hsort,hP3,f3'⟩
 have hY:=HZ.out Y hperm hsort
 have HCOM:Hid (∀u,Below w3.heap.size w3 u→Calls Tryz.prog 112 #[.slice P n1 c'] u fun e w'=>e=.returned (.slice P (Lib.compact Y).length c')∧Below wb.heap.size u w'):=Lib.hid fun u hu=>compactPorts wb.heap.size P n1 c' Y u (hP3.below hu) hle hc'
 have fb:Below wb.heap.size wb w3:=f2.trans (f3'.mono (Nat.le_refl _))
 have f3:Below w.heap.size w w3:=f0.trans (fb.mono f0.size)
 obtain⟨e0,e1,e2,e3⟩:=HSb.out.low fb hwl
 generalize (Lib.compact Y).length=m at *
 clear hperm hsort hP hP3 f2 f3' fb HZ HSb hcl
 cases p
 ·go_upto_region 3 with fail
  refine wp_region_order (TgS w.heap.size (.slice A1 n1 c1) (.slice A2 n2 c2) (.slice A3 n3 c3) (.slice A4 n4 c4)) 99 [(0,0),(1,0),(2,0),(3,0),(4,0),(5,0),(6,1),(7,1),(8,0),(9,0),(10,0),(11,1),(12,0),(13,0),(14,0),(17,0),(18,0),(19,0),(15,1),(16,0),(20,0),(21,0),(22,0)] (by kernel_rfl) (by kernel_rfl) ?_
  simp only[pick,List.filterMap_cons,List.filterMap_nil,List.getElem?_cons_zero,List.getElem?_cons_succ,Option.map_some]
  have hS:TgS w.heap.size (.slice A1 n1 c1) (.slice A2 n2 c2) (.slice A3 n3 c3) (.slice A4 n4 c4) w3.drew:=⟨e0,e1,e2,e3⟩
  have F1:Below w3.heap.size w3 w3.drew:=(Below.refl _ w3).drew
  clear e0 e1 e2 e3
  generalize w3.drew=wd at *
  iterate 6 (refine wpF_take (v:=?_) hS rfl ?_ (fun _ _ _ h=>h) ?_;rotate_left;(· intro w' hS';obtain⟨e0,e1,e2,e3⟩:=hS';go_simp<;>rfl);go_simp)
  refine wpF_only rfl (fun K hK=>?_)
  go_wp2_with fail
  have hR:=HROWS.out wd (f3.trans (F1.mono f3.size))
  have fa:Below wd.heap.size wd (wd.alloc (.cells #[.slice A2 n2 c2,.slice A3 n3 c3,.slice A4 n4 c4] 43)):=(Below.refl _ wd).alloc (Nat.le_refl _) _
  replace hS:=hS.below fa
  replace F1:=F1.trans (fa.mono F1.size)
  clear fa
  go_wp2_with fail
  first|refine⟨fun _=>hS,?_⟩|refine⟨hS,?_⟩|skip
  go_simp
  refine wpF_only rfl (fun K hK=>?_)
  go_wp2_with fail
  refine hR.mono ?_
  rintro e w5 ⟨rfl,f5⟩
  replace hS:=hS.below f5
  have hS2:=hS
  obtain⟨e0,e1,e2,e3⟩:=hS2
  replace F1:=F1.trans (f5.mono F1.size)
  clear hR f5
  go_wp2_with fail
  first|refine⟨fun _=>hS,?_⟩|refine⟨hS,?_⟩|skip
  go_simp
  (refine wpF_take (v:=?_) hS rfl ?_ (fun _ _ _ h=>h) ?_;rotate_left;(· intro w' hS';obtain⟨e0,e1,e2,e3⟩:=hS';go_simp<;>rfl);go_simp)
  refine wpF_skip hS rfl (fun _ _ _ h=>h) ?_
  go_simp
  refine wpF_skip hS rfl (fun _ _ _ h=>h) ?_
  go_simp
  refine wpF_pass rfl (fun _=>hS) ?_
  go_simp
  iterate 2 (refine wpF_take (v:=?_) hS rfl ?_ (fun _ _ _ h=>h) ?_;rotate_left;(· intro w' hS';obtain⟨e0,e1,e2,e3⟩:=hS';go_simp<;>rfl);go_simp)
  refine wpF_skip hS rfl (fun _ _ _ h=>h) ?_
  go_simp
  refine wpF_skip hS rfl (fun _ _ _ h=>h) ?_
  go_simp
  refine wpF_skip hS rfl (fun _ _ _ h=>h) ?_
  go_simp
  refine wpF_skip hS rfl (fun _ _ _ h=>h) ?_
  go_simp
  refine wpF_pass rfl (fun _=>hS) ?_
  go_simp
  refine wpF_skip hS rfl (fun _ _ _ h=>h) ?_
  go_simp
  refine wpF_skip hS rfl (fun _ _ _ h=>h) ?_
  go_simp
  iterate 2 (refine wpF_take (v:=?_) hS rfl ?_ (fun _ _ _ h=>h) ?_;rotate_left;(· intro w' hS';obtain⟨e0,e1,e2,e3⟩:=hS';go_simp<;>rfl);go_simp)
  refine wpF_nil ?_
  go_wp2_with fail
  go_ret
  exact⟨by first|rfl|simp,f3.trans (F1.mono f3.size)⟩
 cases q
 ·go_upto_region 3 with fail
  refine wp_region_order (TgS w.heap.size (.slice A1 n1 c1) (.slice A2 n2 c2) (.slice A3 n3 c3) (.slice A4 n4 c4)) 99 [(0,0),(1,0),(2,0),(3,0),(4,0),(5,0),(6,1),(7,1),(8,0),(9,0),(10,0),(11,1),(12,0),(13,0),(14,0),(17,0),(18,0),(19,0),(15,1),(16,0),(20,0),(21,0),(22,0)] (by kernel_rfl) (by kernel_rfl) ?_
  simp only[pick,List.filterMap_cons,List.filterMap_nil,List.getElem?_cons_zero,List.getElem?_cons_succ,Option.map_some]
  have hS:TgS w.heap.size (.slice A1 n1 c1) (.slice A2 n2 c2) (.slice A3 n3 c3) (.slice A4 n4 c4) w3.drew:=⟨e0,e1,e2,e3⟩
  have F1:Below w3.heap.size w3 w3.drew:=(Below.refl _ w3).drew
  clear e0 e1 e2 e3
  generalize w3.drew=wd at *
  iterate 6 (refine wpF_take (v:=?_) hS rfl ?_ (fun _ _ _ h=>h) ?_;rotate_left;(· intro w' hS';obtain⟨e0,e1,e2,e3⟩:=hS';go_simp<;>rfl);go_simp)
  refine wpF_only rfl (fun K hK=>?_)
  go_wp2_with fail
  have hR:=HROWS.out wd (f3.trans (F1.mono f3.size))
  have fa:Below wd.heap.size wd (wd.alloc (.cells #[.slice A2 n2 c2,.slice A3 n3 c3,.slice A4 n4 c4] 43)):=(Below.refl _ wd).alloc (Nat.le_refl _) _
  replace hS:=hS.below fa
  replace F1:=F1.trans (fa.mono F1.size)
  clear fa
  go_wp2_with fail
  first|refine⟨fun _=>hS,?_⟩|refine⟨hS,?_⟩|skip
  go_simp
  refine wpF_only rfl (fun K hK=>?_)
  go_wp2_with fail
  refine hR.mono ?_
  rintro e w5 ⟨rfl,f5⟩
  replace hS:=hS.below f5
  have hS2:=hS
  obtain⟨e0,e1,e2,e3⟩:=hS2
  replace F1:=F1.trans (f5.mono F1.size)
  clear hR f5
  go_wp2_with fail
  first|refine⟨fun _=>hS,?_⟩|refine⟨hS,?_⟩|skip
  go_simp
  iterate 3 (refine wpF_take (v:=?_) hS rfl ?_ (fun _ _ _ h=>h) ?_;rotate_left;(· intro w' hS';obtain⟨e0,e1,e2,e3⟩:=hS';go_simp<;>rfl);go_simp)
  refine wpF_only rfl (fun K hK=>?_)
  go_wp2_with fail
  refine (HALL.out _ (f3.trans (F1.mono f3.size))).mono ?_
  rintro e w6 ⟨rfl,f6⟩
  replace hS:=hS.below f6
  have hS2:=hS
  obtain⟨e0,e1,e2,e3⟩:=hS2
  replace F1:=F1.trans (f6.mono F1.size)
  clear f6
  go_wp2_with fail
  first|refine⟨fun _=>hS,?_⟩|refine⟨hS,?_⟩|skip
  go_simp
  iterate 2 (refine wpF_take (v:=?_) hS rfl ?_ (fun _ _ _ h=>h) ?_;rotate_left;(· intro w' hS';obtain⟨e0,e1,e2,e3⟩:=hS';go_simp<;>rfl);go_simp)
  refine wpF_skip hS rfl (fun _ _ _ h=>h) ?_
  go_simp
  refine wpF_skip hS rfl (fun _ _ _ h=>h) ?_
  go_simp
  refine wpF_skip hS rfl (fun _ _ _ h=>h) ?_
  go_simp
  refine wpF_skip hS rfl (fun _ _ _ h=>h) ?_
  go_simp
  refine wpF_pass rfl (fun _=>hS) ?_
  go_simp
  refine wpF_skip hS rfl (fun _ _ _ h=>h) ?_
  go_simp
  refine wpF_skip hS rfl (fun _ _ _ h=>h) ?_
  go_simp
  iterate 2 (refine wpF_take (v:=?_) hS rfl ?_ (fun _ _ _ h=>h) ?_;rotate_left;(· intro w' hS';obtain⟨e0,e1,e2,e3⟩:=hS';go_simp<;>rfl);go_simp)
  refine wpF_nil ?_
  go_wp2_with fail
  go_ret
  exact⟨by first|rfl|simp,f3.trans (F1.mono f3.size)⟩
 go_upto_region 3 with fail
 refine wp_region_order (TgS w.heap.size (.slice A1 n1 c1) (.slice A2 n2 c2) (.slice A3 n3 c3) (.slice A4 n4 c4)) 99 [(0,0),(1,0),(2,0),(3,0),(4,0),(5,0),(6,1),(7,1),(8,0),(9,0),(10,0),(11,1),(12,0),(13,0),(14,0),(17,0),(18,0),(19,0),(15,1),(16,0),(20,0),(21,0),(22,0)] (by kernel_rfl) (by kernel_rfl) ?_
 simp only[pick,List.filterMap_cons,List.filterMap_nil,List.getElem?_cons_zero,List.getElem?_cons_succ,Option.map_some]
 have hS:TgS w.heap.size (.slice A1 n1 c1) (.slice A2 n2 c2) (.slice A3 n3 c3) (.slice A4 n4 c4) w3.drew:=⟨e0,e1,e2,e3⟩
 have F1:Below w3.heap.size w3 w3.drew:=(Below.refl _ w3).drew
 clear e0 e1 e2 e3
 generalize w3.drew=wd at *
 iterate 6 (refine wpF_take (v:=?_) hS rfl ?_ (fun _ _ _ h=>h) ?_;rotate_left;(· intro w' hS';obtain⟨e0,e1,e2,e3⟩:=hS';go_simp<;>rfl);go_simp)
 refine wpF_only rfl (fun K hK=>?_)
 go_wp2_with fail
 have hR:=HROWS.out wd (f3.trans (F1.mono f3.size))
 have fa:Below wd.heap.size wd (wd.alloc (.cells #[.slice A2 n2 c2,.slice A3 n3 c3,.slice A4 n4 c4] 43)):=(Below.refl _ wd).alloc (Nat.le_refl _) _
 replace hS:=hS.below fa
 replace F1:=F1.trans (fa.mono F1.size)
 clear fa
 go_wp2_with fail
 first|refine⟨fun _=>hS,?_⟩|refine⟨hS,?_⟩|skip
 go_simp
 refine wpF_only rfl (fun K hK=>?_)
 go_wp2_with fail
 refine hR.mono ?_
 rintro e w5 ⟨rfl,f5⟩
 replace hS:=hS.below f5
 have hS2:=hS
 obtain⟨e0,e1,e2,e3⟩:=hS2
 replace F1:=F1.trans (f5.mono F1.size)
 clear hR f5
 go_wp2_with fail
 first|refine⟨fun _=>hS,?_⟩|refine⟨hS,?_⟩|skip
 go_simp
 iterate 3 (refine wpF_take (v:=?_) hS rfl ?_ (fun _ _ _ h=>h) ?_;rotate_left;(· intro w' hS';obtain⟨e0,e1,e2,e3⟩:=hS';go_simp<;>rfl);go_simp)
 refine wpF_only rfl (fun K hK=>?_)
 go_wp2_with fail
 refine (HALL.out _ (f3.trans (F1.mono f3.size))).mono ?_
 rintro e w6 ⟨rfl,f6⟩
 replace hS:=hS.below f6
 have hS2:=hS
 obtain⟨e0,e1,e2,e3⟩:=hS2
 replace F1:=F1.trans (f6.mono F1.size)
 clear f6
 go_wp2_with fail
 first|refine⟨fun _=>hS,?_⟩|refine⟨hS,?_⟩|skip
 go_simp
 iterate 6 (refine wpF_take (v:=?_) hS rfl ?_ (fun _ _ _ h=>h) ?_;rotate_left;(· intro w' hS';obtain⟨e0,e1,e2,e3⟩:=hS';go_simp<;>rfl);go_simp)
 refine wpF_only rfl (fun K hK=>?_)
 go_wp2_with fail
 refine (HCOM.out _ F1).mono ?_
 rintro e w7 ⟨rfl,f7⟩
 replace hS:=hS.low f7
 have hS2:=hS
 obtain⟨e0,e1,e2,e3⟩:=hS2
 go_wp2_with fail
 first|refine⟨fun _=>hS,?_⟩|refine⟨hS,?_⟩|skip
 go_simp
 iterate 4 (refine wpF_take (v:=?_) hS rfl ?_ (fun _ _ _ h=>h) ?_;rotate_left;(· intro w' hS';obtain⟨e0,e1,e2,e3⟩:=hS';go_simp<;>rfl);go_simp)
 refine wpF_nil ?_
 go_wp2_with fail
 go_ret
 exact⟨by first|rfl|simp,(f3.trans (F1.mono f3.size)).trans (f7.mono (by omega))⟩
set_option maxRecDepth 100000 in
set_option maxHeartbeats 2000000 in
theorem allSource_any(A:Option Addr)(n c:Nat)(L:List Sr)(w:World)(h:RdG 3 SrP w w.heap.size A n L)(hok:∀x∈L,okSr x) :
  Calls Tryz.prog 65 #[.int .i64 3,.slice A n c,.func (.func 66) #[] #[]] w fun e w'=>e=.returned (.bool (decide (L.length≤3)&&L.all srMay))∧Below w.heap.size w w':=by
 have hl:=h.1
 refine all_Source A n c (prL srMay L) w (fun w' hb j hj=>?_) (by rw[Bool.and_eq_true,decide_eq_true_eq,all_prL hl,hl])
 obtain⟨b,off,cs,p1,p2,p3,p4,p5⟩:=(h.mono hb.size hb fun _ _ h=>SrP.mono h hb.size hb).at_ hj
 have hj':j<L.length:=by omega
 have p6:=p4
 obtain⟨A1,m1,d1,A2,m2,d2,A3,m3,d3,rfl,_⟩:=vals_sr p4
 refine⟨b,off,A1,m1,d1,A2,m2,d2,A3,m3,d3,p1,p5 0 _ rfl,p5 1 _ rfl,p5 2 _ rfl,fun w'' hb'=>?_⟩
 rw[prL_at hj']
 exact source_any _ _ w'' (SrP.mono p6 hb'.size hb') (hok _ (List.getElem_mem hj'))
set_option maxRecDepth 100000 in
set_option maxHeartbeats 2000000 in
theorem allTarget_any(A:Option Addr)(n c:Nat)(L:List Tg)(w:World)(h:RdG 4 TgP w w.heap.size A n L)(hok:∀x∈L,okTg x) :
  Calls Tryz.prog 67 #[.int .i64 3,.slice A n c,.func (.func 68) #[] #[]] w fun e w'=>e=.returned (.bool (decide (L.length≤3)&&L.all tgMay))∧Below w.heap.size w w':=by
 have hl:=h.1
 refine all_Target A n c (prL tgMay L) w (fun w' hb j hj=>?_) (by rw[Bool.and_eq_true,decide_eq_true_eq,all_prL hl,hl])
 obtain⟨b,off,cs,p1,p2,p3,p4,p5⟩:=(h.mono hb.size hb fun _ _ h=>TgP.mono h hb.size hb).at_ hj
 have hj':j<L.length:=by omega
 have p6:=p4
 obtain⟨A1,m1,d1,A2,m2,d2,A3,m3,d3,A4,m4,d4,rfl,_⟩:=vals_tg p4
 refine⟨b,off,A1,m1,d1,A2,m2,d2,A3,m3,d3,A4,m4,d4,p1,p5 0 _ rfl,p5 1 _ rfl,p5 2 _ rfl,p5 3 _ rfl,fun w'' hb'=>?_⟩
 rw[prL_at hj']
 exact target_any _ _ w'' (TgP.mono p6 hb'.size hb') (hok _ (List.getElem_mem hj'))
set_option maxRecDepth 100000 in
set_option maxHeartbeats 2000000 in
theorem allWhen_any(A:Option Addr)(n c:Nat)(L:List Wn)(w:World)(h:RdG 2 WnP w w.heap.size A n L)(hok:∀x∈L,okWn x) :
  Calls Tryz.prog 69 #[.int .i64 3,.slice A n c,.func (.func 70) #[] #[]] w fun e w'=>e=.returned (.bool (decide (L.length≤3)&&L.all wnMay))∧Below w.heap.size w w':=by
 have hl:=h.1
 refine all_When A n c (prL wnMay L) w (fun w' hb j hj=>?_) (by rw[Bool.and_eq_true,decide_eq_true_eq,all_prL hl,hl])
 obtain⟨b,off,cs,p1,p2,p3,p4,p5⟩:=(h.mono hb.size hb fun _ _ h=>WnP.mono h hb.size hb).at_ hj
 have hj':j<L.length:=by omega
 have p6:=p4
 obtain⟨A1,m1,d1,rfl,_⟩:=vals_wn p4
 refine⟨b,off,_,A1,m1,d1,p1,p5 0 _ rfl,p5 1 _ rfl,fun w'' hb'=>?_⟩
 rw[prL_at hj']
 exact when_any _ _ w'' (WnP.mono p6 hb'.size hb') (hok _ (List.getElem_mem hj'))
set_option maxRecDepth 100000 in
set_option maxHeartbeats 2000000 in
theorem mayRule_any(r:Ru)(cs:List Value)(w:World)(h:RuP w w.heap.size cs r)(hok:okRu r) :
  Calls Tryz.prog 36 #[.agg cs.toArray] w fun e w'=>e=.returned (.bool (ruMay r))∧Below w.heap.size w w':=by
 obtain⟨A1,n1,c1,A2,n2,c2,A3,n3,c3,rfl,h1,h2,h3⟩:=vals_ru h
 obtain⟨⟨_,k1⟩,⟨_,k2⟩,⟨_,k3⟩⟩:=hok
 obtain⟨p,hp⟩:∃p,(decide (r.froms.length≤3)&&r.froms.all srMay)=p:=⟨_,rfl⟩
 obtain⟨q,hq⟩:∃q,(decide (r.tos.length≤3)&&r.tos.all tgMay)=q:=⟨_,rfl⟩
 obtain⟨z,hz⟩:∃z,(decide (r.whens.length≤3)&&r.whens.all wnMay)=z:=⟨_,rfl⟩
 have he:ruMay r=(p&&(q&&z)):=by rw[←hp,←hq,←hz];rfl
 rw[he]
 show Calls Tryz.prog 36 #[.agg #[.slice A1 n1 c1,.slice A2 n2 c2,.slice A3 n3 c3]] w _
 obtain⟨wb,hwb⟩:∃wb,w.alloc (.cells #[.slice A1 n1 c1,.slice A2 n2 c2,.slice A3 n3 c3] 50)=wb:=⟨_,rfl⟩
 have f0:Below w.heap.size w wb:=by rw[←hwb];exact (Below.refl _ _).alloc (Nat.le_refl _) _
 have bl:=Blk.newAt (w:=w) rfl 50 #[.slice A1 n1 c1,.slice A2 n2 c2,.slice A3 n3 c3]
 rw[hwb] at bl
 have e0:wb.cell? ⟨w.heap.size,0,none⟩=some (.slice A1 n1 c1):=bl.cell 0
 have e1:wb.cell? ⟨w.heap.size,1,none⟩=some (.slice A2 n2 c2):=bl.cell 1
 have e2:wb.cell? ⟨w.heap.size,2,none⟩=some (.slice A3 n3 c3):=bl.cell 2
 have H1:=Lib.hid fun(u:World)(hb:Below w.heap.size w u)=>allSource_any A1 n1 c1 r.froms u (h1.mono hb.size hb fun _ _ h=>SrP.mono h hb.size hb) k1
 have H2:=Lib.hid fun(u:World)(hb:Below w.heap.size w u)=>allTarget_any A2 n2 c2 r.tos u (h2.mono hb.size hb fun _ _ h=>TgP.mono h hb.size hb) k2
 have H3:=Lib.hid fun(u:World)(hb:Below w.heap.size w u)=>allWhen_any A3 n3 c3 r.whens u (h3.mono hb.size hb fun _ _ h=>WnP.mono h hb.size hb) k3
 rw[hp] at H1
 rw[hq] at H2
 rw[hz] at H3
 clear h h1 h2 h3 k1 k2 k3 hp hq hz he bl
 go_enter Tryz.func36,Tryz.ntmps36
 go_wp2_with fail
 refine (H1.out wb f0).mono ?_
 rintro e w2 ⟨rfl,f2⟩
 have f3:=f0.trans (f2.mono f0.size)
 have e5:=(f2.cell (World.block_lt_of_cell? wb _ e1)).trans e1
 have e6:=(f2.cell (World.block_lt_of_cell? wb _ e2)).trans e2
 cases p
 ·go_wp2_with fail
  go_ret
  exact⟨rfl,f3⟩
 go_wp2_with fail
 refine (H2.out w2 f3).mono ?_
 rintro e w4 ⟨rfl,f4⟩
 have f5:=f3.trans (f4.mono f3.size)
 have e7:=(f4.cell (World.block_lt_of_cell? w2 _ e6)).trans e6
 cases q
 ·go_wp2_with fail
  go_ret
  exact⟨by first|rfl|simp,f5⟩
 go_wp2_with fail
 refine (H3.out w4 f5).mono ?_
 rintro e w6 ⟨rfl,f6⟩
 have f7:=f5.trans (f6.mono f5.size)
 go_wp2_with fail
 go_ret
 exact⟨by first|rfl|simp,f7⟩
set_option maxRecDepth 100000 in
set_option maxHeartbeats 2000000 in
theorem allRule_any(A:Option Addr)(n c:Nat)(L:List Ru)(w:World)(h:RdG 3 RuP w w.heap.size A n L)(hok:∀x∈L,okRu x) :
  Calls Tryz.prog 35 #[.int .i64 6,.slice A n c,.func (.func 36) #[] #[]] w fun e w'=>e=.returned (.bool (decide (L.length≤6)&&L.all ruMay))∧Below w.heap.size w w':=by
 have hl:=h.1
 refine all_Rule A n c (prL ruMay L) w (fun w' hb j hj=>?_) (by rw[Bool.and_eq_true,decide_eq_true_eq,all_prL hl,hl])
 obtain⟨b,off,cs,p1,p2,p3,p4,p5⟩:=(h.mono hb.size hb fun _ _ h=>RuP.mono h hb.size hb).at_ hj
 have hj':j<L.length:=by omega
 have p6:=p4
 obtain⟨A1,m1,d1,A2,m2,d2,A3,m3,d3,rfl,_⟩:=vals_ru p4
 refine⟨b,off,A1,m1,d1,A2,m2,d2,A3,m3,d3,p1,p5 0 _ rfl,p5 1 _ rfl,p5 2 _ rfl,fun w'' hb'=>?_⟩
 rw[prL_at hj']
 exact mayRule_any _ _ w'' (RuP.mono p6 hb'.size hb') (hok _ (List.getElem_mem hj'))
def poMay(p:Po):Bool:=decide (1≤p.id)&&(decide (p.id≤4611686018427387903)&&((p.ns.isEmpty||labB p.ns)&&(decide (p.service≤4611686018427387903)&&((decide (p.deny=0)||decide (p.deny=1))&&(decide (p.rules.length≤6)&&p.rules.all ruMay)))))
set_option maxRecDepth 100000 in
set_option maxHeartbeats 4000000 in
theorem may12_any(p:Po)(cs:List Value)(w:World)(h:PoP w w.heap.size cs p)(hok:okPo p) :
  Calls Tryz.prog 17 #[.agg cs.toArray] w fun e w'=>e=.returned (.bool (poMay p))∧Below w.heap.size w w':=by
 obtain⟨v,rfl,A,n,c,rfl,_,_,h1⟩:=h
 obtain⟨id,ns,sv,dn,rules⟩:=p
 obtain⟨k1,k2,k3,k4,k5,k6⟩:=hok
 simp only at k1 k2 k3 k4 k5 k6 h1 ⊢
 obtain⟨b1,x1⟩:∃b,decide (1≤id)=b:=⟨_,rfl⟩
 obtain⟨b2,x2⟩:∃b,decide (id≤4611686018427387903)=b:=⟨_,rfl⟩
 obtain⟨b3,x3⟩:∃b,ns.isEmpty=b:=⟨_,rfl⟩
 obtain⟨b4,x4⟩:∃b,labB ns=b:=⟨_,rfl⟩
 obtain⟨b5,x5⟩:∃b,decide (sv≤4611686018427387903)=b:=⟨_,rfl⟩
 obtain⟨b6,x6⟩:∃b,decide (dn=0)=b:=⟨_,rfl⟩
 obtain⟨b7,x7⟩:∃b,decide (dn=1)=b:=⟨_,rfl⟩
 obtain⟨b8,x8⟩:∃b,(decide (rules.length≤6)&&rules.all ruMay)=b:=⟨_,rfl⟩
 have he:poMay ⟨id,ns,sv,dn,rules⟩=(b1&&(b2&&((b3||b4)&&(b5&&((b6||b7)&&b8))))):=by rw[←x1,←x2,←x3,←x4,←x5,←x6,←x7,←x8];rfl
 rw[he]
 have hlab:=fun w=>mayLabel_any ns (by unfold okS at k2;omega) w
 rw[x4] at hlab
 have y1:decide ((1:Int)≤(id:Int))=b1:=by rw[←x1];exact decide_eq_decide.2 (by omega)
 have y2:decide ((id:Int)≤4611686018427387903)=b2:=by rw[←x2];exact decide_eq_decide.2 (by omega)
 have y5:decide ((sv:Int)≤4611686018427387903)=b5:=by rw[←x5];exact decide_eq_decide.2 (by omega)
 have y6:(dn==0)=b6:=by rw[←x6];rfl
 have y7:(dn==1)=b7:=by rw[←x7];rfl
 have z1:decide (1≤id)=b1:=x1
 have z2:decide (id≤4611686018427387903)=b2:=x2
 have z5:decide (sv≤4611686018427387903)=b5:=x5
 have y3:(strB ns).toList.isEmpty=b3:=by rw[strB_toList];exact x3
 show Calls Tryz.prog 17 #[.agg #[.int .u64 (id:Int),.string (strB ns),.int .u64 (sv:Int),.int .i64 dn,.slice A n c]] w _
 obtain⟨wb,hwb⟩:∃wb,w.alloc (.cells #[.int .u64 (id:Int),.string (strB ns),.int .u64 (sv:Int),.int .i64 dn,.slice A n c] 39)=wb:=⟨_,rfl⟩
 have f0:Below w.heap.size w wb:=by rw[←hwb];exact (Below.refl _ _).alloc (Nat.le_refl _) _
 have bl:=Blk.newAt (w:=w) rfl 39 #[.int .u64 (id:Int),.string (strB ns),.int .u64 (sv:Int),.int .i64 dn,.slice A n c]
 rw[hwb] at bl
 have e0:wb.cell? ⟨w.heap.size,0,none⟩=some (.int .u64 (id:Int)):=bl.cell 0
 have e1:wb.cell? ⟨w.heap.size,1,none⟩=some (.string (strB ns)):=bl.cell 1
 have e2:wb.cell? ⟨w.heap.size,2,none⟩=some (.int .u64 (sv:Int)):=bl.cell 2
 have e3:wb.cell? ⟨w.heap.size,3,none⟩=some (.int .i64 dn):=bl.cell 3
 have e4:wb.cell? ⟨w.heap.size,4,none⟩=some (.slice A n c):=bl.cell 4
 have H8:=Lib.hid fun(u:World)(hb:Below w.heap.size w u)=>allRule_any A n c rules u (h1.mono hb.size hb fun _ _ h=>RuP.mono h hb.size hb) k6
 rw[x8] at H8
 clear h1 k1 k2 k3 k4 k5 k6 he bl x1 x2 x4 x5 x6 x7 x8
 generalize strB ns=s at *
 go_enter Tryz.func17,Tryz.ntmps17
 cases b1
 ·go_wp2_with fail
  go_ret
  exact⟨by first|rfl|simp,f0⟩
 cases b2
 ·go_wp2_with fail
  go_ret
  exact⟨by first|rfl|simp,f0⟩
 cases b3
 ·cases b4
  ·go_wp2_with fail
   refine (hlab _).mono ?_
   rintro e w2 ⟨rfl,f2⟩
   have f3:=f0.trans (f2.mono f0.size)
   go_wp2_with fail
   go_ret
   exact⟨by first|rfl|simp,f3⟩
  go_wp2_with fail
  refine (hlab _).mono ?_
  rintro e w2 ⟨rfl,f2⟩
  have f3:=f0.trans (f2.mono f0.size)
  have q2:=(f2.cell (World.block_lt_of_cell? wb _ e2)).trans e2
  have q3:=(f2.cell (World.block_lt_of_cell? wb _ e3)).trans e3
  have q4:=(f2.cell (World.block_lt_of_cell? wb _ e4)).trans e4
  clear e0 e1 e2 e3 e4 hwb
  cases b5
  ·go_wp2_with fail
   go_ret
   exact⟨by first|rfl|simp,f3⟩
  cases b6
  ·cases b7
   ·go_wp2_with fail
    go_ret
    exact⟨by first|rfl|simp,f3⟩
   go_wp2_with fail
   refine (H8.out w2 f3).mono ?_
   rintro e w8 ⟨rfl,f8⟩
   have f9:=f3.trans (f8.mono f3.size)
   go_wp2_with fail
   go_ret
   exact⟨by first|rfl|simp,f9⟩
  go_wp2_with fail
  refine (H8.out w2 f3).mono ?_
  rintro e w8 ⟨rfl,f8⟩
  have f9:=f3.trans (f8.mono f3.size)
  go_wp2_with fail
  go_ret
  exact⟨by first|rfl|simp,f9⟩
 cases b5
 ·go_wp2_with fail
  go_ret
  exact⟨by first|rfl|simp,f0⟩
 cases b6
 ·cases b7
  ·go_wp2_with fail
   go_ret
   exact⟨by first|rfl|simp,f0⟩
  go_wp2_with fail
  refine (H8.out wb f0).mono ?_
  rintro e w8 ⟨rfl,f8⟩
  have f9:=f0.trans (f8.mono f0.size)
  go_wp2_with fail
  go_ret
  exact⟨by first|rfl|simp,f9⟩
 go_wp2_with fail
 refine (H8.out wb f0).mono ?_
 rintro e w8 ⟨rfl,f8⟩
 have f9:=f0.trans (f8.mono f0.size)
 go_wp2_with fail
 go_ret
 exact⟨by first|rfl|simp,f9⟩
end Go.Proofs.YtpcdmbajfmnoiaaGreatDoor
