/- syntax.elements: what holds between its rounds. No condition. syntax.elements at Term, Cidr, int. Conditions: words of a million bytes at most; the library's variables hold what they should. Printed by gen_synel.py. -/
import Derived.Test.YtpcdmbajfmnoiaaGreatDoorSynRdAll
import Derived.Test.YtpcdmbajfmnoiaaGreatDoorOrderIn
import Derived.Test.YtpcdmbajfmnoiaaGreatDoorTxAll
import Derived.RangeFuncBox
import Derived.Shelf.RegionOpen
namespace Go.Proofs.YtpcdmbajfmnoiaaGreatDoor
set_option linter.unusedVariables false
set_option linter.unusedSimpArgs false
open Go.RowKit
attribute [local go_sem] Oper.semAt_some
theorem splitSeq_any(s p:ByteArray)(w:World):Calls Tryz.prog 134 #[.string s,.string p] w fun e w'=>e=.returned (.func (.func 202) #[] #[.pointer (some ⟨w.heap.size+1,0,none⟩),.pointer (some ⟨w.heap.size,0,none⟩),.pointer (some ⟨w.heap.size+2,0,none⟩)]) ∧
  w'=((w.alloc (.cells #[.string s] 9)).alloc (.cells #[.string p] 9)).alloc (.cells #[.int .i64 0] 3):=by
 have h1:Calls Tryz.prog 172 #[.string s,.string p,.int .i64 0] w fun e w'=>e=.returned (.func (.func 202) #[] #[.pointer (some ⟨w.heap.size+1,0,none⟩),.pointer (some ⟨w.heap.size,0,none⟩),.pointer (some ⟨w.heap.size+2,0,none⟩)]) ∧
   w'=((w.alloc (.cells #[.string s] 9)).alloc (.cells #[.string p] 9)).alloc (.cells #[.int .i64 0] 3):=by
  go_enter Tryz.func172,Tryz.ntmps172
  go_wp2_with fail
  go_ret
  exact⟨rfl,rfl⟩
 go_enter Tryz.func134,Tryz.ntmps134
 go_wp2_with fail
 refine h1.mono ?_
 rintro e w' ⟨rfl,rfl⟩
 go_wp2_with fail
 go_ret
 exact⟨rfl,rfl⟩
def ElS(b3 bw:Nat)(B0:Bool)(u:World):Prop:=u.cell? ⟨b3,0,none⟩=some (.pointer (some ⟨bw,0,none⟩))∧u.cell? ⟨bw,1,none⟩=some (.bool B0)
theorem grownBy_setCell2(W:World)(p:Addr)(u:Value):W.grownBy (W.setCell p u) (some p.block):=⟨rfl,rfl,rfl,by simp[World.setCell],fun k _ hk=>Below.heap_setCell W p u k (fun e=>hk (by rw[e]))⟩
theorem own_arm{α:Type}{enc:α→List Value}{k base e:Nat}{v:Value}{L:List α}{Wa Wx:World}(h:OwnR enc k Wa base e v L)(p:Addr)(hp:p.block<base)(u:Value)(hx:Below Wa.heap.size (Wa.setCell p u) Wx)(o2:Obj):((Wx.alloc o2).drew).ownsRow base e k v L.length (flatR enc L):=by
 have h1:=h.grownG (row:=some p.block) (grownBy_setCell2 Wa p u) (fun b hb=>by injection hb with hb;omega)
 have h2:=h1.below (B:=Wa.heap.size) (by simp[World.setCell]) hx
 have h3:=h2.grownG (row:=none) (World.grownBy_alloc _ o2 none) (fun b hb=>by cases hb)
 exact h3
theorem arm_cells(Wx:World)(g:Nat)(hg:Wx.heap.size=g)(cs:List Value)(e:Nat):∀j v,cs[j]?=some v→((Wx.alloc (.cells cs.toArray e)).drew).cell? ((⟨g,0,none⟩:Addr).add j)=some v:=by
 subst hg
 intro j v hv
 exact new_cells Wx cs e j v hv
theorem arm_b7{Wa Wx w':World}{p:Addr}{u:Value}{o2:Obj}{v x:Value}{b7 bs:Nat}(hx:Below Wa.heap.size (Wa.setCell p u) Wx)(hg:(Wx.alloc o2).drew.grownBy w' v.ownBlock)(h:Wa.cell? ⟨b7,0,none⟩=some x)(hf:Wa.frozen? ⟨b7,0,none⟩=false)(hl:b7<Wa.heap.size)(hne:¬b7=p.block)(hv:Hid (∀b,v.ownBlock=some b→bs+3≤b))(hb:b7<bs+3) :
  w'.cell? ⟨b7,0,none⟩=some x∧w'.frozen? ⟨b7,0,none⟩=false:=by
 have xs:Wa.heap.size≤Wx.heap.size:=by have:=hx.size;simpa [World.setCell] using this
 have e1:=hg.block b7 (by show b7<(Wx.alloc o2).heap.size;simp;omega) (fun e=>by have:=hv.out b7 e.symm;omega)
 have e3:=Below.heap_alloc Wx o2 b7 (by omega)
 have e4:=hx.block b7 hl
 have e5:=Below.heap_setCell Wa p u b7 hne
 have e:=e1.trans (e3.trans (e4.trans e5))
 exact⟨(World.cell?_of_block (a:=⟨b7,0,none⟩) e).trans h,(World.frozen?_of_block (a:=⟨b7,0,none⟩) e).trans hf⟩
theorem ZTm:RowTy Tryz.prog 43 42 2 24 (.agg #[.int .i64 0,.string ByteArray.empty]):=⟨Tryz.underlying43,by kernel_rfl,rfl,by omega⟩
theorem ZNt:RowTy Tryz.prog 54 85 2 16 (.agg #[.int .u32 0,.int .i64 0]):=⟨Tryz.underlying54,by kernel_rfl,rfl,by omega⟩
theorem ZIn:RowTy Tryz.prog 40 3 1 8 (.int .i64 0):=⟨Tryz.underlying40,by kernel_rfl,rfl,by omega⟩
theorem el_boxes{w w2:World}{bw T1 T2:Nat}{v1 v2:Value}(hbw:bw<w.heap.size)(o:Off (fun k=>k=bw) ((w.alloc (.cells #[v1] T1)).alloc (.cells #[v2] T2)) w2):Blk w2 w.heap.size T1 [v1]∧Blk w2 (w.heap.size+1) T2 [v2]∧w.heap.size+2≤w2.heap.size:=by
 have h1:Blk ((w.alloc (.cells #[v1] T1)).alloc (.cells #[v2] T2)) w.heap.size T1 [v1]:=(Blk.newAt (w:=w) rfl T1 #[v1]).alloc _
 have h2:Blk ((w.alloc (.cells #[v1] T1)).alloc (.cells #[v2] T2)) (w.heap.size+1) T2 [v2]:=Blk.newAt (by simp) T2 #[v2]
 exact⟨h1.off o (by omega),h2.off o (by omega),by have:=o.size;simpa using this⟩
structure ElI{α:Type}(enc:α→List Value)(k e tl:Nat)(one:List UInt8→Option α)(bw b7 bs:Nat)(A:Option Addr)(n c:Nat)(b1:Bool)(w1:World)(pre:List (List UInt8))(W:World):Prop where
 off:Off (fun b=>b=bw∨b=b7) w1 W
 box:Blk W bw 98 [.slice A n c,.bool (b1||pre.any fun s=>(one s).isNone)]
 row:∃(v:Value)(L:List α),Blk W b7 tl [v]∧OwnR enc k W (bs+3) e v L∧L.length=pre.length∧∀M,mapO one pre=some M→L=M
 sep:Blk W (bs+1) 9 [.string ⟨#[44]⟩]
 sv:Blk W (bs+2) 3 [.int .i64 0]
section
variable {α:Type} {enc:α→List Value} {k e tl:Nat} {one:List UInt8→Option α} {bw b7 bs:Nat} {A:Option Addr} {n c:Nat} {b1:Bool} {w1:World}
theorem ElI.own(h1:bw<w1.heap.size)(h2:b7<w1.heap.size)(h3:w1.heap.size=bs):OwnFrom (bs+3) (ElI enc k e tl one bw b7 bs A n c b1 w1):=by
 intro pre X Y row h hg hr
 have ne:∀j,j<bs+3→some j≠row:=fun j hj e=>by have:=(hr j e.symm).1;omega
 obtain⟨v,L,q1,q2,q3,q4⟩:=h.row
 refine⟨h.off.grown hg fun k hk hl=>by have:=(hr k hk).1;omega,(hg.block _ h.box.lt (ne _ (by omega))).trans h.box,⟨v,L,(hg.block _ q1.lt (ne _ (by omega))).trans q1,?_,q3,q4⟩,(hg.block _ h.sep.lt (ne _ (by omega))).trans h.sep,(hg.block _ h.sv.lt (ne _ (by omega))).trans h.sv⟩
 refine⟨q2.1,?_⟩
 rcases q2.2 with hn|⟨g,cap,cur,g1,g2,g3,g4⟩
 ·exact .inl hn
 refine .inr ⟨g,cap,cur,g1,g2,(hg.block g (Array.getElem?_eq_some_iff.1 g3).1 fun e=>?_).trans g3,g4⟩
 obtain⟨_,o,ho,hc⟩:=hr g e.symm
 rw[g3] at ho
 injection ho with ho
 subst ho
 cases hc
theorem ElI.blind(h1:bw<w1.heap.size)(h2:b7<w1.heap.size)(h3:w1.heap.size=bs):Blind bs (ElI enc k e tl one bw b7 bs A n c b1 w1):=by
 intro pre X u h
 obtain⟨v,L,q1,q2,q3,q4⟩:=h.row
 refine⟨h.off.setCell (p:=⟨bs,0,none⟩) (fun hl=>by simp only at hl;omega) _,h.box.far (p:=⟨bs,0,none⟩) (by simp only;omega) _,⟨v,L,q1.far (p:=⟨bs,0,none⟩) (by simp only;omega) _,?_,q3,q4⟩,h.sep.far (p:=⟨bs,0,none⟩) (by simp only;omega) _,h.sv.far (p:=⟨bs,0,none⟩) (by simp only;omega) _⟩
 exact q2.grownG (grownBy_setCell' X bs u) fun b hb=>by injection hb with hb;omega
theorem ElI.ld{M:Nat}(hW:LdW w1)(hM:7<M)(h1:M≤bw)(h2:M≤b7)(h3:M≤w1.heap.size){pre:List (List UInt8)}{W:World}(h:ElI enc k e tl one bw b7 bs A n c b1 w1 pre W):LdW W :=
 hW.below hM (h.off.below h3 fun k hk=>by rcases hk with rfl|rfl<;>omega)
theorem mapO_snoc{β:Type}{f:β→Option α}{pre:List β}{x:β}{M:List α}(h:mapO f (pre++[x])=some M):∃M0 y,mapO f pre=some M0∧f x=some y∧M=M0++[y]:=by
 induction pre generalizing M with
 | nil =>
  rw[List.nil_append,mapO] at h
  cases hx:f x with
  | none=>rw[hx] at h;cases h
  | some y =>
   rw[hx] at h
   simp only[mapO] at h
   injection h with h
   exact⟨[],y,rfl,rfl,h.symm⟩
 | cons z pre ih =>
  rw[List.cons_append,mapO] at h
  cases hz:f z with
  | none=>rw[hz] at h;cases h
  | some u =>
   rw[hz] at h
   simp only at h
   cases hp:mapO f (pre++[x]) with
   | none=>rw[hp] at h;cases h
   | some M1 =>
    rw[hp] at h
    injection h with h
    obtain⟨M0,y,h1,h2,h3⟩:=ih hp
    refine⟨u::M0,y,by rw[mapO,hz];simp only;rw[h1],h2,by rw[←h,h3];rfl⟩
theorem mapO_any{β:Type}{f:β→Option α}(pre:List β):(mapO f pre).isNone=pre.any fun s=>(f s).isNone:=by
 induction pre with
 | nil=>rfl
 | cons z pre ih =>
  rw[mapO,List.any_cons,←ih]
  cases f z with
  | none=>rfl
  | some u =>
   simp only[Option.isNone_some,Bool.false_or]
   cases mapO f pre<;>rfl
end
section
variable {α:Type} {enc:α→List Value} {k e tl:Nat} {one:List UInt8→Option α} {bw b7 bs:Nat} {A:Option Addr} {n c:Nat} {b1:Bool} {w1:World}
theorem ElI.step(h1:bw<w1.heap.size)(h2:b7<w1.heap.size)(h3:w1.heap.size=bs)(hne:bw≠b7){pre:List (List UInt8)}{x:List UInt8}{W Wa Wx w':World}(h:ElI enc k e tl one bw b7 bs A n c b1 w1 pre W)(f:Below W.heap.size W Wa)
  {v v':Value} {L:List α} (q1:Blk W b7 tl [v]) (q2:OwnR enc k W (bs+3) e v L) (q3:L.length=pre.length) (q4:∀M,mapO one pre=some M→L=M) {y:α} (hy:∀z,one x=some z→y=z) {b':Bool} (hb':b'=(b1||(pre++[x]).any fun s=>(one s).isNone)) (hx:Below Wa.heap.size (Wa.setCell ⟨bw,1,none⟩ (.bool b')) Wx) {o2:Obj}
  (own:w'.ownsRow (bs+3) e k v' (L.length+1) (flatR enc L++enc y)) (hg:(Wx.alloc o2).drew.grownBy w' v.ownBlock) :
  KeepsFrom (bs+3) W (w'.setCell ⟨b7,0,none⟩ v')∧(w'.setCell ⟨b7,0,none⟩ v').heap[bs]?=W.heap[bs]?∧ElI enc k e tl one bw b7 bs A n c b1 w1 (pre++[x]) (w'.setCell ⟨b7,0,none⟩ v'):=by
 have hlt:∀b,v.ownBlock=some b→bs+3≤b:=fun b hb=>(World.ownsRow.lt q2 b hb).1
 have hsv:=h.sv.lt
 have fs:=f.size
 have xs:Wa.heap.size≤Wx.heap.size:=by have:=hx.size;simpa [World.setCell] using this
 have step:∀j,j<W.heap.size→j≠bw→j≠b7→some j≠v.ownBlock→(w'.setCell ⟨b7,0,none⟩ v').heap[j]?=W.heap[j]?:=fun j hj ha hb hc=>by
  have e1:=Below.heap_setCell w' ⟨b7,0,none⟩ v' j hb
  have e2:=hg.block j (by show j<(Wx.alloc o2).heap.size;simp;omega) hc
  have e3:=Below.heap_alloc Wx o2 j (by omega)
  have e4:=hx.block j (by omega)
  have e5:=Below.heap_setCell Wa ⟨bw,1,none⟩ (.bool b') j ha
  exact e1.trans (e2.trans (e3.trans (e4.trans (e5.trans (f.block j hj)))))
 have keep:∀{g t:Nat} {cs:List Value},Blk W g t cs→g≠bw→g≠b7→g<bs+3→Blk (w'.setCell ⟨b7,0,none⟩ v') g t cs:=fun {g t cs} hb ha hc hl=>(step g hb.lt ha hc (fun e=>by have:=hlt g e.symm;omega)).trans hb
 have hbo:some bw≠v.ownBlock:=fun e=>by have:=hlt bw e.symm;omega
 have hb7:some b7≠v.ownBlock:=fun e=>by have:=hlt b7 e.symm;omega
 refine⟨⟨?_,fun j o hj ho hn=>?_⟩,step bs (by omega) (by omega) (by omega) (fun e=>by have:=hlt bs e.symm;omega),?_⟩
 ·have:=hg.size
  simp at this ⊢
  omega
 ·have hj2:=(Array.getElem?_eq_some_iff.1 ho).1
  refine (step j hj2 (by omega) (by omega) fun e=>?_).trans ho
  obtain⟨cur,hc⟩:=ownsRow_typed q2 e.symm
  rw[ho] at hc
  injection hc with hc
  subst hc
  cases hn
 refine⟨?_,?_,⟨v',L++[y],?_,?_,by simp[q3],fun M hM=>?_⟩,keep h.sep (by omega) (by omega) (by omega),keep h.sv (by omega) (by omega) (by omega)⟩
 ·have g1:=(h.off.trans (Off.of_all f) fun _ _ h=>h.elim).setCell (p:=⟨bw,1,none⟩) (fun _=>.inl rfl) (.bool b')
  have hx':Below (Wa.setCell ⟨bw,1,none⟩ (.bool b')).heap.size (Wa.setCell ⟨bw,1,none⟩ (.bool b')) Wx:=by
   have e:(Wa.setCell ⟨bw,1,none⟩ (.bool b')).heap.size=Wa.heap.size:=by simp[World.setCell]
   rw[e]
   exact hx
  have g2:=((g1.trans (Off.of_all hx') fun _ _ h=>h.elim).alloc o2).drew
  have g3:=g2.grown hg fun j hj hl=>by have:=hlt j hj;omega
  exact g3.setCell (p:=⟨b7,0,none⟩) (fun _=>.inr rfl) _
 ·rw[←hb']
  exact (((((h.box.below f h.box.lt).set 1 (.bool b')).below hx (by have:=h.box.lt;omega)).alloc o2).drew.grown hg hbo).far (p:=⟨b7,0,none⟩) hne _
 ·exact ((((((q1.below f q1.lt).far (p:=⟨bw,1,none⟩) (Ne.symm hne) (.bool b')).below hx (by have:=q1.lt;omega)).alloc o2).drew.grown hg hb7).set 0 v')
 ·have:OwnR enc k w' (bs+3) e v' (L++[y]):=by
   unfold OwnR
   rw[flatR_append,List.length_append]
   have e1:flatR enc [y]=enc y:=by simp[flatR]
   rw[e1]
   exact own
  exact this.grownG (grownBy_setCell' w' b7 v') fun b hb=>by injection hb with hb;omega
 obtain⟨M0,z,g1,g2,g3⟩:=mapO_snoc hM
 rw[g3,q4 M0 g1,hy z g2]
end
attribute [local go_sem] Oper.semAt_some
def ElP{α:Type}(enc:α→List Value)(k e:Nat)(one:List UInt8→Option α)(M B bw:Nat)(word:List UInt8)(ws:List (List UInt8))(bad:Bool)(w:World)(en:Ending)(w':World):Prop :=
 ∃(v:Value)(L:List α)(ws':List (List UInt8)),en=.returned v∧OwnR enc k w' w.heap.size e v L∧L.length≤1000001∧Wd w' M B bw ws' (bad||(elemsO word one ws).isNone)∧Off (fun b=>b=bw) w w'∧(∀s∈ws',s∈ws)∧∀L0 r0,elemsO word one ws=some (L0,r0)→L=L0∧ws'=r0
set_option maxRecDepth 100000 in
set_option maxHeartbeats 8000000 in
theorem elT_core(M B bw:Nat)(word s:List UInt8)(ws r:List (List UInt8))(bad b1:Bool)(w:World)(hW:LdW w)(hM:7<M)(hMw:M≤w.heap.size)(hs:s.length≤1000000)
  (hi:∀u,Wd u M B bw ws bad→Calls Tryz.prog 55 #[.pointer (some ⟨bw,0,none⟩),.string (strB word)] u fun e w'=>e=.returned (.bool true)∧Wd w' M B bw ws.tail bad∧Off (fun k=>k=bw) u w') (h:Wd w M B bw ws bad)
  (ht:∀u,Wd u M B bw ws.tail bad→Calls Tryz.prog 95 #[.pointer (some ⟨bw,0,none⟩)] u fun e w'=>e=.returned (.string (strB s))∧Wd w' M B bw r b1∧Off (fun k=>k=bw) u w') :
  Calls Tryz.prog 88 #[.pointer (some ⟨bw,0,none⟩),.string (strB word),.func (.func 89) #[] #[]] w fun e w' =>
   ∃(v:Value)(L:List Tm),e=.returned v∧OwnR tmC 2 w' w.heap.size 42 v L∧L.length=(spl 44 s).length∧Wd w' M B bw r (b1||(mapO readTm (spl 44 s)).isNone)∧Off (fun b=>b=bw) w w'∧∀L0,mapO readTm (spl 44 s)=some L0→L=L0:=by
 obtain⟨hMb,hbw⟩:=h.lt
 have HT:=Lib.hid ht;have HIs:=Lib.hid hi;clear ht hi
 have kA:=(h.off (Off.of_all ((Below.refl _ w).alloc (Nat.le_refl _) (.cells #[.pointer (some ⟨bw,0,none⟩)] 95))) (fun _ h=>h.elim)).off (Off.of_all ((Below.refl _ _).alloc (Nat.le_refl _) (.cells #[.func (.func 89) #[] #[]] 126))) (fun _ h=>h.elim)
 refine (callsIn_wide (n:=9)).1 ?_
 refine callsIn_of_wp_marks Tryz.func88 rfl trivial ?_ rfl
 simp only[Tryz.ntmps88,List.size_toArray,List.length_cons,List.length_nil,Nat.reduceAdd,Nat.reduceSub,Array.replicate_succ,Array.replicate_zero,List.push_toArray,List.append_toArray,List.nil_append,List.cons_append]
 gi_wp2_with (first
  | (refine⟨trivial,?_⟩;gi_at_call 55;refine (callsIn_wide.2 (HIs.out _ kA)).mono ?_;rintro e w2 ⟨rfl,k2,o2⟩;obtain⟨B3,B5,hz2⟩:=el_boxes hbw o2;have c3:=B3.cell 0;have l3:=B3.lt)
  | (refine⟨trivial,?_⟩;gi_at_call 95;refine (callsIn_wide.2 (HT.out _ (k2.off (Off.of_all ((Below.refl _ w2).alloc (Nat.le_refl _) (.cells #[.slice none 0 0] 43))) (fun _ h=>h.elim)))).mono ?_;rintro e w3 ⟨rfl,k3,o3⟩)
  | (refine⟨trivial,?_⟩;gi_at_call 134;refine (callsIn_wide.2 (splitSeq_any _ _ _)).mono ?_;rintro e w4 ⟨rfl,rfl⟩))
 obtain⟨c3',B3',B5',B7'⟩:w3.cell? ⟨w.heap.size,0,none⟩=some (.pointer (some ⟨bw,0,none⟩))∧Blk w3 w.heap.size 95 [.pointer (some ⟨bw,0,none⟩)]∧Blk w3 (w.heap.size+1) 126 [.func (.func 89) #[] #[]]∧Blk w3 w2.heap.size 43 [.slice none 0 0]:=by
  have a3:=(B3.alloc (.cells #[.slice none 0 0] 43)).off o3 (by omega)
  have a5:=(B5.alloc (.cells #[.slice none 0 0] 43)).off o3 (by omega)
  have a7:=(Blk.newAt (w:=w2) rfl 43 #[.slice none 0 0]).off o3 (by omega)
  exact⟨a3.cell 0,a3,a5,a7⟩
 have ho:Off (fun k=>k=bw) w w3:=(((((Off.refl (fun k=>k=bw) w).alloc _).alloc _).trans o2 fun _ _ h=>h).alloc _).trans o3 fun _ _ h=>h
 have hW3:=hW.offW hM hMb hMw ho
 have hs3:w2.heap.size+1≤w3.heap.size:=by have:=o3.size;simpa using this
 obtain⟨⟨_,kB⟩,A,nA,cA,kb,kn,kc,kr⟩:=id k3
 have hk3:=Lib.hid k3
 clear c3 l3 B3 B5 o2 o3 k2 k3 kA
 have kfrz:w3.frozen? ⟨w.heap.size,0,none⟩=false:=B3'.frozen 0
 have nb7:bw≠w2.heap.size:=by omega
 have hB7:B≤w2.heap.size:=by have:=h.1.2;omega
 have hz7:w.heap.size+2≤w2.heap.size:=hz2
 obtain⟨b3,e3⟩:∃b3,w.heap.size=b3:=⟨_,rfl⟩
 obtain⟨b7,e7⟩:∃b7,w2.heap.size=b7:=⟨_,rfl⟩
 obtain⟨bs,es⟩:∃bs,w3.heap.size=bs:=⟨_,rfl⟩
 rw[e3,e7,es]
 rw[e3] at hMw hbw c3' B3' B5' hz7
 rw[e7] at B7' hs3 nb7 hz7 hB7
 rw[es] at hs3
 obtain⟨W0,hW0⟩:∃W0,((w3.alloc (.cells #[.string (strB s)] 9)).alloc (.cells #[.string ⟨#[44]⟩] 9)).alloc (.cells #[.int .i64 0] 3)=W0:=⟨_,rfl⟩
 have hsz:W0.heap.size=bs+3:=by rw[←hW0,←es];simp
 have g0:Blk W0 bs 9 [.string (strB s)]:=by rw[←hW0,←es];exact ((Blk.newAt (w:=w3) rfl 9 #[.string (strB s)]).alloc _).alloc _
 have g1:Blk W0 (bs+1) 9 [.string ⟨#[44]⟩]:=by rw[←hW0,←es];exact (Blk.newAt (by simp) 9 #[.string ⟨#[44]⟩]).alloc _
 have g2:Blk W0 (bs+2) 3 [.int .i64 0]:=by rw[←hW0,←es];exact Blk.newAt (by simp) 3 #[.int .i64 0]
 have og:Off (fun b=>b=bw∨b=b7) w3 W0:=by rw[←hW0];exact (((Off.refl _ w3).alloc _).alloc _).alloc _
 rw[hW0]
 have hel0:ElI tmC 2 42 43 readTm bw b7 bs A nA cA b1 w3 [] W0:=by
  refine⟨og,?_,⟨.slice none 0 0,[],?_,OwnR.nil,rfl,fun M hM=>by injection hM⟩,g1,g2⟩
  ·rw[List.any_nil,Bool.or_false,←hW0]
   exact ((kb.alloc _).alloc _).alloc _
  rw[←hW0]
  exact ((B7'.alloc _).alloc _).alloc _
 have p1:bw<w3.heap.size:=by omega
 have p2:b7<w3.heap.size:=by omega
 have p4:M≤w3.heap.size:=by omega
 have p5:M≤b7:=by omega
 have HC:=Lib.hid (show ∀W:World,Off (fun b=>b=bw∨b=b7) w3 W→Blk W b3 95 [.pointer (some ⟨bw,0,none⟩)]∧Blk W (b3+1) 126 [.func (.func 89) #[] #[]] from fun W o=>⟨B3'.off o (by omega),B5'.off o (by omega)⟩)
 have E3:=Lib.hid e3;have E7:=Lib.hid e7;have ES:=Lib.hid es;have HS:=Lib.hid hsz;have HE:=Lib.hid hel0;have HK:=Lib.hid kr;have HKB:=Lib.hid kB;have HB7:=Lib.hid (show B≤b7 from hB7);have HO:=Lib.hid ho;have HL:=Lib.hid hW3
 clear e3 e7 es hW0 g1 g2 og c3' B3' B5' B7' kb kr kB hB7 kfrz hel0
 refine wpIn_box (hro:=rfl) (h1:=by omega) (gf:=202) (lb:=#[.pointer (some ⟨bs+1,0,none⟩),.pointer (some ⟨bs,0,none⟩),.pointer (some ⟨bs+2,0,none⟩)]) rfl trivial (enters_of Tryz.func202 (by kernel_rfl) rfl)
  (split_box (9-1) (by omega) s bs (bs+1) (bs+2) W0 hs g0 (by omega) (by omega)) (by rw[hsz];omega) (fun _=>rfl)
  (ElI tmC 2 42 43 readTm bw b7 bs A nA cA b1 w3) (fun _ _ _=>False) ?own (fun _ _ _ _ _ h _ _=>h) (ElI.blind p1 p2 ES.out) (fun pre W h=>⟨h.ld HL.out hM hMb p5 p4,h.sep.cell 0,h.sv.cell 0⟩) HE.out
  (fun x=>{ tmps:=#[.pointer (some ⟨bw,0,none⟩),.string (strB word),.func (.func 89) #[] #[],.pointer (some ⟨b3,0,none⟩),undef,.pointer (some ⟨b3+1,0,none⟩),.slice none 0 0,.pointer (some ⟨b7,0,none⟩),.string (strB x),undef,undef,.pointer (some ⟨bw,0,none⟩),.string (strB word),.bool true,.bool false,.pointer (some ⟨bw,0,none⟩),.string (strB s),.func (.func 202) #[] #[.pointer (some ⟨bs+1,0,none⟩),.pointer (some ⟨bs,0,none⟩),.pointer (some ⟨bs+2,0,none⟩)],.string (strB x),undef,undef,undef,undef,undef,undef,undef,undef,undef,undef,undef,undef,undef,undef,undef,undef,undef,undef,undef,undef,undef,undef],defers:=[] }) ?assign ?body ?done ?stop
 case own =>
  rw[HS.out]
  exact ElI.own p1 p2 ES.out
 case assign =>
  intro l x W K hK
  unfold encSt
  gi_wp2
  exact hK
 case body =>
  intro l pre x W hl hI hx
  obtain⟨z3,z5⟩:=HC.out W hI.off
  have d3:=z3.cell 0
  have d5:=z5.cell 0
  obtain⟨v,L,q1,q2,q3,q4⟩:=hI.row
  obtain⟨A7,c7,hv7⟩:=OwnR.form (show W.ownsRow (bs+3) 42 2 v L.length (flatR tmC L) from q2)
  subst hv7
  have hld:LdW W:=hI.ld HL.out hM hMb p5 p4
  have hxl:x.length≤1000000:=by
   obtain⟨r',hr'⟩:=hx
   have:=spl_mem_len 44 s x (by rw[hr'];simp)
   omega
  have hrd:=fun(u:World)=>readTerm_any x u hxl
  have hrel:(readTm x).isNone= !(readTm x).isSome:=by cases readTm x<;>rfl
  have hy:∀z,readTm x=some z→(readTm x).getD (0,[])=z:=fun z h=>by rw[h];rfl
  obtain⟨⟨Ky,ly⟩,hyv⟩:∃y,(readTm x).getD (0,[])=y:=⟨_,rfl⟩
  rw[hyv] at hrd hy
  obtain⟨ok,hokv⟩:∃ok,(readTm x).isSome=ok:=⟨_,rfl⟩
  rw[hokv] at hrd hrel
  clear hokv hyv
  unfold tmC at hrd
  simp only at hrd
  have HY:=Lib.hid hy;have HR:=Lib.hid hrel;have HX:=Lib.hid hx;have HI:=Lib.hid hI;have Q1:=Lib.hid q1;have Q2:=Lib.hid q2;have Q3:=Lib.hid q3;have Q4:=Lib.hid q4
  have bx:=hI.box
  obtain⟨B0,hB0⟩:∃B0,(b1||pre.any fun s=>(readTm s).isNone)=B0:=⟨_,rfl⟩
  rw[hB0] at bx
  have HB0:=Lib.hid hB0
  have hn1:1≤9-1-1:=by omega
  have hd7:=q1.cell 0
  have hf7:=q1.frozen 0
  have t1:=bx.cell 1
  have t2:=bx.frozen 1
  have y3:=z3.lt;have y5:=z5.lt;have y7:=q1.lt;have yw:=bx.lt
  clear hy hrel hx hI q1 q2 q3 q4 z3 z5 hB0
  gi_wp2_with (refine⟨trivial,?_⟩;gi_at_call 89;refine (CallsIn.inRound l (callsIn_wide.2 (hrd _))).mono ?_;rintro e Wa ⟨rfl,f⟩;have d3':=(f.cell (p:=⟨b3,0,none⟩) y3).trans d3;have t1':=(f.cell (p:=⟨bw,1,none⟩) yw).trans t1;have t2':=(f.frozen (p:=⟨bw,1,none⟩) yw).trans t2;have zz:=f.size)
  have hmx:Tryz.prog.follows .mixedOrders=true:=by kernel_rfl
  have yw':bw<Wa.heap.size:=by omega
  have y3':b3<Wa.heap.size:=by omega
  clear d3 t1 t2 hrd d5 y5
  obtain⟨i0,hi0,hz0,hz1,hz2⟩:=info_parts ZTm.info
  rcases B0 with _|_
  ·skip
   have hS:ElS b3 bw false (Wa.alloc (.cells #[.int .i64 Ky,.string (strB ly)] 42)).drew:=⟨(((Below.refl _ Wa).alloc (Nat.le_refl _) _).cell (p:=⟨b3,0,none⟩) y3').trans d3',(((Below.refl _ Wa).alloc (Nat.le_refl _) _).cell (p:=⟨bw,1,none⟩) yw').trans t1'⟩
   refine wpIn_region_order (ElS b3 bw false) 11 [(0,0),(1,0),(2,0),(3,0),(4,0),(5,0),(6,0),(7,0),(8,0),(9,1),(10,0),(11,2)] hmx (by kernel_rfl) ?_
   simp only[pick,List.filterMap_cons,List.filterMap_nil,List.getElem?_cons_zero,List.getElem?_cons_succ,Option.map_some]
   iterate 9 (refine wpF_take (v:=?_) hS rfl ?_ (fun _ _ _ h=>h) ?_;rotate_left;(· intro w' hS';obtain⟨e0,e1⟩:=hS';go_simp<;>rfl);go_simp)
   refine wpF_only rfl (fun K hK=>?_)
   go_wp2_with fail
   first|refine⟨fun _=>hS,?_⟩|refine⟨hS,?_⟩|skip
   (refine wpF_take (v:=?_) hS rfl ?_ (fun _ _ _ h=>h) ?_;rotate_left;(· intro w' hS';obtain⟨e0,e1⟩:=hS';go_simp<;>rfl);go_simp)
   refine wpF_only rfl (fun K hK=>?_)
   go_wp2_with fail
   refine⟨fun h=>absurd h (by decide),wpF_nil ⟨(by intro h;cases h),?_⟩⟩
   have z7:=(f.cell (p:=⟨b7,0,none⟩) y7).trans hd7
   have zf7:=(f.frozen (p:=⟨b7,0,none⟩) y7).trans hf7
   have y7':b7<Wa.heap.size:=by omega
   have nwb:¬bw=b7:=nb7
   have nbw:¬b7=bw:=fun h=>nb7 h.symm
   obtain⟨bb,hbb⟩:∃bb,(!ok)=bb:=⟨_,rfl⟩
   rw[hbb]
   have hb':bb=(b1||(pre++[x]).any fun s=>(readTm s).isNone):=by
    rw[List.any_append,List.any_cons,List.any_nil,Bool.or_false,←Bool.or_assoc,HB0.out,HR.out,←hbb]
    cases ok<;>simp
   have HB':=Lib.hid hb'
   have HLV:∀b,(Value.slice A7 L.length c7).ownBlock=some b→bs+3≤b:=fun b hb=>(World.ownsRow.lt Q2.out b hb).1
   have hbx:Below Wa.heap.size (Wa.setCell ⟨bw,1,none⟩ (.bool bb)) ((Wa.setCell ⟨bw,1,none⟩ (.bool bb)).alloc (.cells #[.int .i64 Ky,.string (strB ly)] 42)):=((Below.refl _ _).alloc (by simp[World.setCell]) _)
   have HBX:=Lib.hid hbx
   have hown:((((Wa.setCell ⟨bw,1,none⟩ (.bool bb)).alloc (.cells #[.int .i64 Ky,.string (strB ly)] 42)).alloc (.cells #[.int .i64 Ky,.string (strB ly)] 42)).drew).ownsRow (bs+3) 42 2 (.slice A7 L.length c7) L.length (flatR tmC L) :=
    own_arm (Q2.out.below (Nat.le_refl _) f) ⟨bw,1,none⟩ (by simp only;omega) _ hbx _
   have HOWN:=Lib.hid hown;have HLV':=Lib.hid HLV
   have hL6:L.length+1≤1000001:=by rw[Q3.out];obtain⟨r',hr'⟩:=HX.out;have:=spl_len 44 s;rw[hr'] at this;simp only[List.length_append,List.length_cons] at this;omega
   have hsz4:bs+3≤Wa.heap.size:=by have:=HI.out.sv.lt;omega
   clear hbb hb' hown HLV hS hbx
   dsimp only
   gi_wp2_with (gi_at_builtin;refine wpListIn_append_own _ rfl _ _ 43 rfl (bs+3) 42 i0 (.agg #[.int .i64 0,.string ByteArray.empty]) 2 24 Tryz.underlying43 hi0 hz0 hz1 hz2 rfl (by decide) (.slice A7 L.length c7) L.length (flatR tmC L) rfl HOWN.out ⟨Wa.heap.size+1,0,none⟩ 1 1 [.int .i64 Ky,.string (strB ly)] rfl rfl (arm_cells _ _ (by simp) [.int .i64 Ky,.string (strB ly)] 42) (by simp[Value.oneCell']) (by unfold maxLen;omega) (by omega) (by simp;omega) ?_;intro v' w' hown' hgrow _;obtain⟨g',cap',rfl⟩:=ownsRow_succ hown';obtain⟨a7,af7⟩:=arm_b7 HBX.out hgrow z7 zf7 y7' nbw HLV' (by omega))
   rw[HS.out]
   exact HI.out.step p1 p2 ES.out nb7 f Q1.out Q2.out Q3.out Q4.out (y:=(Ky,ly)) HY.out HB'.out HBX.out hown' hgrow
  skip
  have hS:ElS b3 bw true (Wa.alloc (.cells #[.int .i64 Ky,.string (strB ly)] 42)).drew:=⟨(((Below.refl _ Wa).alloc (Nat.le_refl _) _).cell (p:=⟨b3,0,none⟩) y3').trans d3',(((Below.refl _ Wa).alloc (Nat.le_refl _) _).cell (p:=⟨bw,1,none⟩) yw').trans t1'⟩
  refine wpIn_region_order (ElS b3 bw true) 11 [(0,0),(1,0),(2,0),(3,0),(4,0),(5,0),(6,0),(7,0),(8,0),(9,1),(10,0),(11,2)] hmx (by kernel_rfl) ?_
  simp only[pick,List.filterMap_cons,List.filterMap_nil,List.getElem?_cons_zero,List.getElem?_cons_succ,Option.map_some]
  iterate 6 (refine wpF_take (v:=?_) hS rfl ?_ (fun _ _ _ h=>h) ?_;rotate_left;(· intro w' hS';obtain⟨e0,e1⟩:=hS';go_simp<;>rfl);go_simp)
  refine wpF_skip hS rfl (fun _ _ _ h=>h) ?_
  go_simp
  refine wpF_skip hS rfl (fun _ _ _ h=>h) ?_
  go_simp
  (refine wpF_take (v:=?_) hS rfl ?_ (fun _ _ _ h=>h) ?_;rotate_left;(· intro w' hS';obtain⟨e0,e1⟩:=hS';go_simp<;>rfl);go_simp)
  refine wpF_only rfl (fun K hK=>?_)
  go_wp2_with fail
  first|refine⟨fun _=>hS,?_⟩|refine⟨hS,?_⟩|skip
  (refine wpF_take (v:=?_) hS rfl ?_ (fun _ _ _ h=>h) ?_;rotate_left;(· intro w' hS';obtain⟨e0,e1⟩:=hS';go_simp<;>rfl);go_simp)
  refine wpF_only rfl (fun K hK=>?_)
  go_wp2_with fail
  refine⟨fun h=>absurd h (by decide),wpF_nil ⟨(by intro h;cases h),?_⟩⟩
  have z7:=(f.cell (p:=⟨b7,0,none⟩) y7).trans hd7
  have zf7:=(f.frozen (p:=⟨b7,0,none⟩) y7).trans hf7
  have y7':b7<Wa.heap.size:=by omega
  have nwb:¬bw=b7:=nb7
  have nbw:¬b7=bw:=fun h=>nb7 h.symm
  have hb':true=(b1||(pre++[x]).any fun s=>(readTm s).isNone):=by
   rw[List.any_append,List.any_cons,List.any_nil,Bool.or_false,←Bool.or_assoc,HB0.out]
   simp
  have HB':=Lib.hid hb'
  have HLV:∀b,(Value.slice A7 L.length c7).ownBlock=some b→bs+3≤b:=fun b hb=>(World.ownsRow.lt Q2.out b hb).1
  have hbx:Below Wa.heap.size (Wa.setCell ⟨bw,1,none⟩ (.bool true)) ((Wa.setCell ⟨bw,1,none⟩ (.bool true)).alloc (.cells #[.int .i64 Ky,.string (strB ly)] 42)):=((Below.refl _ _).alloc (by simp[World.setCell]) _)
  have HBX:=Lib.hid hbx
  have hown:((((Wa.setCell ⟨bw,1,none⟩ (.bool true)).alloc (.cells #[.int .i64 Ky,.string (strB ly)] 42)).alloc (.cells #[.int .i64 Ky,.string (strB ly)] 42)).drew).ownsRow (bs+3) 42 2 (.slice A7 L.length c7) L.length (flatR tmC L) :=
   own_arm (Q2.out.below (Nat.le_refl _) f) ⟨bw,1,none⟩ (by simp only;omega) _ hbx _
  have HOWN:=Lib.hid hown;have HLV':=Lib.hid HLV
  have hL6:L.length+1≤1000001:=by rw[Q3.out];obtain⟨r',hr'⟩:=HX.out;have:=spl_len 44 s;rw[hr'] at this;simp only[List.length_append,List.length_cons] at this;omega
  have hsz4:bs+3≤Wa.heap.size:=by have:=HI.out.sv.lt;omega
  clear hb' hown HLV hS hbx
  dsimp only
  gi_wp2_with (gi_at_builtin;refine wpListIn_append_own _ rfl _ _ 43 rfl (bs+3) 42 i0 (.agg #[.int .i64 0,.string ByteArray.empty]) 2 24 Tryz.underlying43 hi0 hz0 hz1 hz2 rfl (by decide) (.slice A7 L.length c7) L.length (flatR tmC L) rfl HOWN.out ⟨Wa.heap.size+1,0,none⟩ 1 1 [.int .i64 Ky,.string (strB ly)] rfl rfl (arm_cells _ _ (by simp) [.int .i64 Ky,.string (strB ly)] 42) (by simp[Value.oneCell']) (by unfold maxLen;omega) (by omega) (by simp;omega) ?_;intro v' w' hown' hgrow _;obtain⟨g',cap',rfl⟩:=ownsRow_succ hown';obtain⟨a7,af7⟩:=arm_b7 HBX.out hgrow z7 zf7 y7' nbw HLV' (by omega))
  rw[HS.out]
  exact HI.out.step p1 p2 ES.out nb7 f Q1.out Q2.out Q3.out Q4.out (y:=(Ky,ly)) HY.out HB'.out HBX.out hown' hgrow
 case done =>
  intro D W hD hI hK
  have hI':=(ElI.own p1 p2 ES.out).putObj (.deferred none) hI (by rw[HS.out] at hD;exact hD) hK rfl
  obtain⟨v,L,q1,q2,q3,q4⟩:=hI.row
  obtain⟨v',L',q1',q2',q3',q4'⟩:=hI'.row
  obtain⟨A7,c7,hv7⟩:=OwnR.form (show W.ownsRow (bs+3) 42 2 v L.length (flatR tmC L) from q2)
  have hvv:v'=v:=by
   have e1:=q1'.cell 0
   have e2:=q1.cell 0
   have e3:(W.putObj D (.deferred none)).heap[b7]?=W.heap[b7]?:=World.putObj_heap_other (by omega)
   rw[World.cell?_of_block (a:=⟨b7,0,none⟩) e3,e2] at e1
   injection e1 with e1
   exact e1.symm
  subst hvv
  subst hv7
  have hd7:=q1.cell 0
  have HF:=Lib.hid (show Wd (W.putObj D (.deferred none)) M B bw r (b1||(mapO readTm (spl 44 s)).isNone)∧Off (fun b=>b=bw) w (W.putObj D (.deferred none))∧OwnR tmC 2 (W.putObj D (.deferred none)) w.heap.size 42 (.slice A7 L.length c7) L' from by
   refine⟨?_,?_,q2'.base_le (by rw[E3.out];omega)⟩
   ·refine⟨⟨hMb,Nat.le_trans HKB.out hI'.off.size⟩,A,nA,cA,?_,kn,kc,HK.out.offW HKB.out hI'.off fun b hb=>?_⟩
    ·rw[mapO_any];exact hI'.box
    rcases hb with rfl|rfl
    ·exact .inr (.inl rfl)
    exact .inr (.inr (by have:=HB7.out;omega))
   exact HO.out.trans hI'.off fun k hk hb=>by
    rcases hb with rfl|rfl
    ·rfl
    rw[E3.out] at hk;omega)
  have HQ:=Lib.hid q3';have HR:=Lib.hid q4'
  clear hI hI' q1 q2 q3 q4 q1' q2' q3' q4'
  gi_wp2
  refine⟨by simp,.inl ⟨_,_,rfl,run_takeDeferred hK,?_⟩⟩
  exact⟨.slice A7 L.length c7,(by simp[results,Tryz.results88,go_sem]),.slice A7 L.length c7,L',rfl,HF.out.2.2,HQ.out,HF.out.1,HF.out.2.1,HR.out⟩
 case stop =>
  intro D c pre W hD h
  exact h.elim
set_option maxRecDepth 100000 in
set_option maxHeartbeats 4000000 in
theorem elT_no(M B bw:Nat)(word:List UInt8)(ws:List (List UInt8))(bad:Bool)(w:World)(h:Wd w M B bw ws bad)
  (hi:∀u,Wd u M B bw ws bad→Calls Tryz.prog 55 #[.pointer (some ⟨bw,0,none⟩),.string (strB word)] u fun e w'=>e=.returned (.bool false)∧u=w') :
  Calls Tryz.prog 88 #[.pointer (some ⟨bw,0,none⟩),.string (strB word),.func (.func 89) #[] #[]] w fun e w' =>
   e=.returned (.slice none 0 0)∧Wd w' M B bw ws bad∧Off (fun b=>b=bw) w w':=by
 have kA:=(h.off (Off.of_all ((Below.refl _ w).alloc (Nat.le_refl _) (.cells #[.pointer (some ⟨bw,0,none⟩)] 95))) (fun _ h=>h.elim)).off (Off.of_all ((Below.refl _ _).alloc (Nat.le_refl _) (.cells #[.func (.func 89) #[] #[]] 126))) (fun _ h=>h.elim)
 have HIs:=Lib.hid hi;clear hi
 have HA:=Lib.hid (show Off (fun b=>b=bw) w ((w.alloc (.cells #[.pointer (some ⟨bw,0,none⟩)] 95)).alloc (.cells #[.func (.func 89) #[] #[]] 126)) from ((Off.refl _ w).alloc _).alloc _)
 refine (callsIn_wide (n:=9)).1 ?_
 refine callsIn_of_wp_marks Tryz.func88 rfl trivial ?_ rfl
 simp only[Tryz.ntmps88,List.size_toArray,List.length_cons,List.length_nil,Nat.reduceAdd,Nat.reduceSub,Array.replicate_succ,Array.replicate_zero,List.push_toArray,List.append_toArray,List.nil_append,List.cons_append]
 gi_wp2_with (refine⟨trivial,?_⟩;gi_at_call 55;refine (callsIn_wide.2 (HIs.out _ kA)).mono ?_;rintro e w2 ⟨rfl,rfl⟩)
 refine⟨.slice none 0 0,(by simp[results,Tryz.results88,go_sem]),rfl,kA,HA.out⟩
theorem elT_any(M B bw:Nat)(word:List UInt8)(ws:List (List UInt8))(bad:Bool)(w:World)(hW:LdW w)(hM:7<M)(hMw:M≤w.heap.size)(hs:∀s∈ws,s.length≤1000000)(h:Wd w M B bw ws bad) :
  Calls Tryz.prog 88 #[.pointer (some ⟨bw,0,none⟩),.string (strB word),.func (.func 89) #[] #[]] w fun e w'=>ElP tmC 2 42 readTm M B bw word ws bad w e w':=by
 cases ws with
 | nil =>
  refine (elT_no M B bw word [] bad w h fun u hu=>is_nil M B bw bad word u hu).mono ?_
  rintro e w' ⟨rfl,h1,h2⟩
  exact⟨_,[],[],rfl,OwnR.nil,by simp,by simpa [elemsO] using h1,h2,by simp,fun L0 r0 h0=>by injection h0 with h0;injection h0 with a b;exact⟨a,b⟩⟩
 | cons x r =>
  by_cases hx:x=word
  ·subst hx
   have hE:elemsO x readTm (x::r)=listO readTm r:=by rw[elemsO,if_pos rfl]
   cases r with
   | nil =>
    refine (elT_core M B bw x [] [x] [] bad true w hW hM hMw (by simp) (fun u hu=>is_yes M B bw bad x [] u hu) h (fun u hu=>take_nil M B bw bad u hu)).mono ?_
    rintro e w' ⟨v,L,rfl,h1,h2,h3,h4,h5⟩
    refine⟨v,L,[],rfl,h1,by rw[h2];decide,?_,h4,by simp,fun L0 r0 h0=>by rw[hE] at h0;cases h0⟩
    rw[hE]
    simpa [listO] using h3
   | cons s r2 =>
    have hs1:=hs s (by simp)
    refine (elT_core M B bw x s (x::s::r2) r2 bad (bad||s.isEmpty) w hW hM hMw hs1 (fun u hu=>is_yes M B bw bad x (s::r2) u hu) h (fun u hu=>take_cons M B bw bad s r2 u hu)).mono ?_
    rintro e w' ⟨v,L,rfl,h1,h2,h3,h4,h5⟩
    have hl:=spl_len 44 s
    refine⟨v,L,r2,rfl,h1,by omega,?_,h4,fun y hy=>by simp[hy],fun L0 r0 h0=>?_⟩
    ·rw[hE]
     by_cases he:s=[]
     ·subst he
      have e1:(mapO readTm (spl 44 [])).isNone=true:=by
       show (mapO readTm [[]]).isNone=true
       rw[mapO,readTm_nil];rfl
      rw[e1] at h3
      simpa [listO] using h3
     have e1:s.isEmpty=false:=by simpa using he
     rw[e1,Bool.or_false] at h3
     rw[listO,if_neg he]
     cases hm:mapO readTm (spl 44 s) with
     | none=>rw[hm] at h3;simpa using h3
     | some M0=>rw[hm] at h3;simpa using h3
    rw[hE,listO] at h0
    split at h0
    ·cases h0
    cases hm:mapO readTm (spl 44 s) with
    | none=>rw[hm] at h0;cases h0
    | some M0 =>
     rw[hm] at h0
     injection h0 with h0
     injection h0 with a b
     exact⟨by rw[h5 M0 hm,a],b⟩
  have hE:elemsO word readTm (x::r)=some ([],x::r):=by rw[elemsO,if_neg hx]
  refine (elT_no M B bw word (x::r) bad w h fun u hu=>is_no M B bw bad word x r u hu hx).mono ?_
  rintro e w' ⟨rfl,h1,h2⟩
  refine⟨_,[],x::r,rfl,OwnR.nil,by simp,by rw[hE];simpa using h1,h2,by simp,fun L0 r0 h0=>?_⟩
  rw[hE] at h0
  injection h0 with h0
  injection h0 with a b
  exact⟨a,b⟩
set_option maxRecDepth 100000 in
set_option maxHeartbeats 8000000 in
theorem elN_core(M B bw:Nat)(word s:List UInt8)(ws r:List (List UInt8))(bad b1:Bool)(w:World)(hW:LdW w)(hM:7<M)(hMw:M≤w.heap.size)(hs:s.length≤1000000)
  (hi:∀u,Wd u M B bw ws bad→Calls Tryz.prog 55 #[.pointer (some ⟨bw,0,none⟩),.string (strB word)] u fun e w'=>e=.returned (.bool true)∧Wd w' M B bw ws.tail bad∧Off (fun k=>k=bw) u w') (h:Wd w M B bw ws bad)
  (ht:∀u,Wd u M B bw ws.tail bad→Calls Tryz.prog 95 #[.pointer (some ⟨bw,0,none⟩)] u fun e w'=>e=.returned (.string (strB s))∧Wd w' M B bw r b1∧Off (fun k=>k=bw) u w') :
  Calls Tryz.prog 90 #[.pointer (some ⟨bw,0,none⟩),.string (strB word),.func (.func 91) #[] #[]] w fun e w' =>
   ∃(v:Value)(L:List Nt),e=.returned v∧OwnR ntC 2 w' w.heap.size 85 v L∧L.length=(spl 44 s).length∧Wd w' M B bw r (b1||(mapO parseNetA (spl 44 s)).isNone)∧Off (fun b=>b=bw) w w'∧∀L0,mapO parseNetA (spl 44 s)=some L0→L=L0:=by
 obtain⟨hMb,hbw⟩:=h.lt
 have HT:=Lib.hid ht;have HIs:=Lib.hid hi;clear ht hi
 have kA:=(h.off (Off.of_all ((Below.refl _ w).alloc (Nat.le_refl _) (.cells #[.pointer (some ⟨bw,0,none⟩)] 95))) (fun _ h=>h.elim)).off (Off.of_all ((Below.refl _ _).alloc (Nat.le_refl _) (.cells #[.func (.func 91) #[] #[]] 128))) (fun _ h=>h.elim)
 refine (callsIn_wide (n:=9)).1 ?_
 refine callsIn_of_wp_marks Tryz.func90 rfl trivial ?_ rfl
 simp only[Tryz.ntmps90,List.size_toArray,List.length_cons,List.length_nil,Nat.reduceAdd,Nat.reduceSub,Array.replicate_succ,Array.replicate_zero,List.push_toArray,List.append_toArray,List.nil_append,List.cons_append]
 gi_wp2_with (first
  | (refine⟨trivial,?_⟩;gi_at_call 55;refine (callsIn_wide.2 (HIs.out _ kA)).mono ?_;rintro e w2 ⟨rfl,k2,o2⟩;obtain⟨B3,B5,hz2⟩:=el_boxes hbw o2;have c3:=B3.cell 0;have l3:=B3.lt)
  | (refine⟨trivial,?_⟩;gi_at_call 95;refine (callsIn_wide.2 (HT.out _ (k2.off (Off.of_all ((Below.refl _ w2).alloc (Nat.le_refl _) (.cells #[.slice none 0 0] 54))) (fun _ h=>h.elim)))).mono ?_;rintro e w3 ⟨rfl,k3,o3⟩)
  | (refine⟨trivial,?_⟩;gi_at_call 134;refine (callsIn_wide.2 (splitSeq_any _ _ _)).mono ?_;rintro e w4 ⟨rfl,rfl⟩))
 obtain⟨c3',B3',B5',B7'⟩:w3.cell? ⟨w.heap.size,0,none⟩=some (.pointer (some ⟨bw,0,none⟩))∧Blk w3 w.heap.size 95 [.pointer (some ⟨bw,0,none⟩)]∧Blk w3 (w.heap.size+1) 128 [.func (.func 91) #[] #[]]∧Blk w3 w2.heap.size 54 [.slice none 0 0]:=by
  have a3:=(B3.alloc (.cells #[.slice none 0 0] 54)).off o3 (by omega)
  have a5:=(B5.alloc (.cells #[.slice none 0 0] 54)).off o3 (by omega)
  have a7:=(Blk.newAt (w:=w2) rfl 54 #[.slice none 0 0]).off o3 (by omega)
  exact⟨a3.cell 0,a3,a5,a7⟩
 have ho:Off (fun k=>k=bw) w w3:=(((((Off.refl (fun k=>k=bw) w).alloc _).alloc _).trans o2 fun _ _ h=>h).alloc _).trans o3 fun _ _ h=>h
 have hW3:=hW.offW hM hMb hMw ho
 have hs3:w2.heap.size+1≤w3.heap.size:=by have:=o3.size;simpa using this
 obtain⟨⟨_,kB⟩,A,nA,cA,kb,kn,kc,kr⟩:=id k3
 have hk3:=Lib.hid k3
 clear c3 l3 B3 B5 o2 o3 k2 k3 kA
 have kfrz:w3.frozen? ⟨w.heap.size,0,none⟩=false:=B3'.frozen 0
 have nb7:bw≠w2.heap.size:=by omega
 have hB7:B≤w2.heap.size:=by have:=h.1.2;omega
 have hz7:w.heap.size+2≤w2.heap.size:=hz2
 obtain⟨b3,e3⟩:∃b3,w.heap.size=b3:=⟨_,rfl⟩
 obtain⟨b7,e7⟩:∃b7,w2.heap.size=b7:=⟨_,rfl⟩
 obtain⟨bs,es⟩:∃bs,w3.heap.size=bs:=⟨_,rfl⟩
 rw[e3,e7,es]
 rw[e3] at hMw hbw c3' B3' B5' hz7
 rw[e7] at B7' hs3 nb7 hz7 hB7
 rw[es] at hs3
 obtain⟨W0,hW0⟩:∃W0,((w3.alloc (.cells #[.string (strB s)] 9)).alloc (.cells #[.string ⟨#[44]⟩] 9)).alloc (.cells #[.int .i64 0] 3)=W0:=⟨_,rfl⟩
 have hsz:W0.heap.size=bs+3:=by rw[←hW0,←es];simp
 have g0:Blk W0 bs 9 [.string (strB s)]:=by rw[←hW0,←es];exact ((Blk.newAt (w:=w3) rfl 9 #[.string (strB s)]).alloc _).alloc _
 have g1:Blk W0 (bs+1) 9 [.string ⟨#[44]⟩]:=by rw[←hW0,←es];exact (Blk.newAt (by simp) 9 #[.string ⟨#[44]⟩]).alloc _
 have g2:Blk W0 (bs+2) 3 [.int .i64 0]:=by rw[←hW0,←es];exact Blk.newAt (by simp) 3 #[.int .i64 0]
 have og:Off (fun b=>b=bw∨b=b7) w3 W0:=by rw[←hW0];exact (((Off.refl _ w3).alloc _).alloc _).alloc _
 rw[hW0]
 have hel0:ElI ntC 2 85 54 parseNetA bw b7 bs A nA cA b1 w3 [] W0:=by
  refine⟨og,?_,⟨.slice none 0 0,[],?_,OwnR.nil,rfl,fun M hM=>by injection hM⟩,g1,g2⟩
  ·rw[List.any_nil,Bool.or_false,←hW0]
   exact ((kb.alloc _).alloc _).alloc _
  rw[←hW0]
  exact ((B7'.alloc _).alloc _).alloc _
 have p1:bw<w3.heap.size:=by omega
 have p2:b7<w3.heap.size:=by omega
 have p4:M≤w3.heap.size:=by omega
 have p5:M≤b7:=by omega
 have HC:=Lib.hid (show ∀W:World,Off (fun b=>b=bw∨b=b7) w3 W→Blk W b3 95 [.pointer (some ⟨bw,0,none⟩)]∧Blk W (b3+1) 128 [.func (.func 91) #[] #[]] from fun W o=>⟨B3'.off o (by omega),B5'.off o (by omega)⟩)
 have E3:=Lib.hid e3;have E7:=Lib.hid e7;have ES:=Lib.hid es;have HS:=Lib.hid hsz;have HE:=Lib.hid hel0;have HK:=Lib.hid kr;have HKB:=Lib.hid kB;have HB7:=Lib.hid (show B≤b7 from hB7);have HO:=Lib.hid ho;have HL:=Lib.hid hW3
 clear e3 e7 es hW0 g1 g2 og c3' B3' B5' B7' kb kr kB hB7 kfrz hel0
 refine wpIn_box (hro:=rfl) (h1:=by omega) (gf:=202) (lb:=#[.pointer (some ⟨bs+1,0,none⟩),.pointer (some ⟨bs,0,none⟩),.pointer (some ⟨bs+2,0,none⟩)]) rfl trivial (enters_of Tryz.func202 (by kernel_rfl) rfl)
  (split_box (9-1) (by omega) s bs (bs+1) (bs+2) W0 hs g0 (by omega) (by omega)) (by rw[hsz];omega) (fun _=>rfl)
  (ElI ntC 2 85 54 parseNetA bw b7 bs A nA cA b1 w3) (fun _ _ _=>False) ?own (fun _ _ _ _ _ h _ _=>h) (ElI.blind p1 p2 ES.out) (fun pre W h=>⟨h.ld HL.out hM hMb p5 p4,h.sep.cell 0,h.sv.cell 0⟩) HE.out
  (fun x=>{ tmps:=#[.pointer (some ⟨bw,0,none⟩),.string (strB word),.func (.func 91) #[] #[],.pointer (some ⟨b3,0,none⟩),undef,.pointer (some ⟨b3+1,0,none⟩),.slice none 0 0,.pointer (some ⟨b7,0,none⟩),.string (strB x),undef,undef,.pointer (some ⟨bw,0,none⟩),.string (strB word),.bool true,.bool false,.pointer (some ⟨bw,0,none⟩),.string (strB s),.func (.func 202) #[] #[.pointer (some ⟨bs+1,0,none⟩),.pointer (some ⟨bs,0,none⟩),.pointer (some ⟨bs+2,0,none⟩)],.string (strB x),undef,undef,undef,undef,undef,undef,undef,undef,undef,undef,undef,undef,undef,undef,undef,undef,undef,undef,undef,undef,undef,undef],defers:=[] }) ?assign ?body ?done ?stop
 case own =>
  rw[HS.out]
  exact ElI.own p1 p2 ES.out
 case assign =>
  intro l x W K hK
  unfold encSt
  gi_wp2
  exact hK
 case body =>
  intro l pre x W hl hI hx
  obtain⟨z3,z5⟩:=HC.out W hI.off
  have d3:=z3.cell 0
  have d5:=z5.cell 0
  obtain⟨v,L,q1,q2,q3,q4⟩:=hI.row
  obtain⟨A7,c7,hv7⟩:=OwnR.form (show W.ownsRow (bs+3) 85 2 v L.length (flatR ntC L) from q2)
  subst hv7
  have hld:LdW W:=hI.ld HL.out hM hMb p5 p4
  have hxl:x.length≤1000000:=by
   obtain⟨r',hr'⟩:=hx
   have:=spl_mem_len 44 s x (by rw[hr'];simp)
   omega
  have hrd:=fun(u:World)(hu:LdW u)=>readNet_any x u (hu) hxl
  have hrel:(parseNetA x).isNone= !(parseNetA x).isSome:=by cases parseNetA x<;>rfl
  have hy:∀z,parseNetA x=some z→(parseNetA x).getD (0,0)=z:=fun z h=>by rw[h];rfl
  obtain⟨⟨Ky,ly⟩,hyv⟩:∃y,(parseNetA x).getD (0,0)=y:=⟨_,rfl⟩
  rw[hyv] at hrd hy
  obtain⟨ok,hokv⟩:∃ok,(parseNetA x).isSome=ok:=⟨_,rfl⟩
  rw[hokv] at hrd hrel
  clear hokv hyv
  unfold ntC at hrd
  simp only at hrd
  have HY:=Lib.hid hy;have HR:=Lib.hid hrel;have HX:=Lib.hid hx;have HI:=Lib.hid hI;have Q1:=Lib.hid q1;have Q2:=Lib.hid q2;have Q3:=Lib.hid q3;have Q4:=Lib.hid q4
  have bx:=hI.box
  obtain⟨B0,hB0⟩:∃B0,(b1||pre.any fun s=>(parseNetA s).isNone)=B0:=⟨_,rfl⟩
  rw[hB0] at bx
  have HB0:=Lib.hid hB0
  have hn1:1≤9-1-1:=by omega
  have hd7:=q1.cell 0
  have hf7:=q1.frozen 0
  have t1:=bx.cell 1
  have t2:=bx.frozen 1
  have y3:=z3.lt;have y5:=z5.lt;have y7:=q1.lt;have yw:=bx.lt
  clear hy hrel hx hI q1 q2 q3 q4 z3 z5 hB0
  gi_wp2_with (refine⟨trivial,?_⟩;gi_at_call 91;refine (CallsIn.inRound l (callsIn_wide.2 (hrd _ hld))).mono ?_;rintro e Wa ⟨rfl,f⟩;have d3':=(f.cell (p:=⟨b3,0,none⟩) y3).trans d3;have t1':=(f.cell (p:=⟨bw,1,none⟩) yw).trans t1;have t2':=(f.frozen (p:=⟨bw,1,none⟩) yw).trans t2;have zz:=f.size)
  have hmx:Tryz.prog.follows .mixedOrders=true:=by kernel_rfl
  have yw':bw<Wa.heap.size:=by omega
  have y3':b3<Wa.heap.size:=by omega
  clear d3 t1 t2 hrd d5 y5
  obtain⟨i0,hi0,hz0,hz1,hz2⟩:=info_parts ZNt.info
  rcases B0 with _|_
  ·skip
   have hS:ElS b3 bw false (Wa.alloc (.cells #[.int .u32 (Ky:Int),.int .i64 ly] 85)).drew:=⟨(((Below.refl _ Wa).alloc (Nat.le_refl _) _).cell (p:=⟨b3,0,none⟩) y3').trans d3',(((Below.refl _ Wa).alloc (Nat.le_refl _) _).cell (p:=⟨bw,1,none⟩) yw').trans t1'⟩
   refine wpIn_region_order (ElS b3 bw false) 11 [(0,0),(1,0),(2,0),(3,0),(4,0),(5,0),(6,0),(7,0),(8,0),(9,1),(10,0),(11,2)] hmx (by kernel_rfl) ?_
   simp only[pick,List.filterMap_cons,List.filterMap_nil,List.getElem?_cons_zero,List.getElem?_cons_succ,Option.map_some]
   iterate 9 (refine wpF_take (v:=?_) hS rfl ?_ (fun _ _ _ h=>h) ?_;rotate_left;(· intro w' hS';obtain⟨e0,e1⟩:=hS';go_simp<;>rfl);go_simp)
   refine wpF_only rfl (fun K hK=>?_)
   go_wp2_with fail
   first|refine⟨fun _=>hS,?_⟩|refine⟨hS,?_⟩|skip
   (refine wpF_take (v:=?_) hS rfl ?_ (fun _ _ _ h=>h) ?_;rotate_left;(· intro w' hS';obtain⟨e0,e1⟩:=hS';go_simp<;>rfl);go_simp)
   refine wpF_only rfl (fun K hK=>?_)
   go_wp2_with fail
   refine⟨fun h=>absurd h (by decide),wpF_nil ⟨(by intro h;cases h),?_⟩⟩
   have z7:=(f.cell (p:=⟨b7,0,none⟩) y7).trans hd7
   have zf7:=(f.frozen (p:=⟨b7,0,none⟩) y7).trans hf7
   have y7':b7<Wa.heap.size:=by omega
   have nwb:¬bw=b7:=nb7
   have nbw:¬b7=bw:=fun h=>nb7 h.symm
   obtain⟨bb,hbb⟩:∃bb,(!ok)=bb:=⟨_,rfl⟩
   rw[hbb]
   have hb':bb=(b1||(pre++[x]).any fun s=>(parseNetA s).isNone):=by
    rw[List.any_append,List.any_cons,List.any_nil,Bool.or_false,←Bool.or_assoc,HB0.out,HR.out,←hbb]
    cases ok<;>simp
   have HB':=Lib.hid hb'
   have HLV:∀b,(Value.slice A7 L.length c7).ownBlock=some b→bs+3≤b:=fun b hb=>(World.ownsRow.lt Q2.out b hb).1
   have hbx:Below Wa.heap.size (Wa.setCell ⟨bw,1,none⟩ (.bool bb)) ((Wa.setCell ⟨bw,1,none⟩ (.bool bb)).alloc (.cells #[.int .u32 (Ky:Int),.int .i64 ly] 85)):=((Below.refl _ _).alloc (by simp[World.setCell]) _)
   have HBX:=Lib.hid hbx
   have hown:((((Wa.setCell ⟨bw,1,none⟩ (.bool bb)).alloc (.cells #[.int .u32 (Ky:Int),.int .i64 ly] 85)).alloc (.cells #[.int .u32 (Ky:Int),.int .i64 ly] 85)).drew).ownsRow (bs+3) 85 2 (.slice A7 L.length c7) L.length (flatR ntC L) :=
    own_arm (Q2.out.below (Nat.le_refl _) f) ⟨bw,1,none⟩ (by simp only;omega) _ hbx _
   have HOWN:=Lib.hid hown;have HLV':=Lib.hid HLV
   have hL6:L.length+1≤1000001:=by rw[Q3.out];obtain⟨r',hr'⟩:=HX.out;have:=spl_len 44 s;rw[hr'] at this;simp only[List.length_append,List.length_cons] at this;omega
   have hsz4:bs+3≤Wa.heap.size:=by have:=HI.out.sv.lt;omega
   clear hbb hb' hown HLV hS hbx
   dsimp only
   gi_wp2_with (gi_at_builtin;refine wpListIn_append_own _ rfl _ _ 54 rfl (bs+3) 85 i0 (.agg #[.int .u32 0,.int .i64 0]) 2 16 Tryz.underlying54 hi0 hz0 hz1 hz2 rfl (by decide) (.slice A7 L.length c7) L.length (flatR ntC L) rfl HOWN.out ⟨Wa.heap.size+1,0,none⟩ 1 1 [.int .u32 (Ky:Int),.int .i64 ly] rfl rfl (arm_cells _ _ (by simp) [.int .u32 (Ky:Int),.int .i64 ly] 85) (by simp[Value.oneCell']) (by unfold maxLen;omega) (by omega) (by simp;omega) ?_;intro v' w' hown' hgrow _;obtain⟨g',cap',rfl⟩:=ownsRow_succ hown';obtain⟨a7,af7⟩:=arm_b7 HBX.out hgrow z7 zf7 y7' nbw HLV' (by omega))
   rw[HS.out]
   exact HI.out.step p1 p2 ES.out nb7 f Q1.out Q2.out Q3.out Q4.out (y:=(Ky,ly)) HY.out HB'.out HBX.out hown' hgrow
  skip
  have hS:ElS b3 bw true (Wa.alloc (.cells #[.int .u32 (Ky:Int),.int .i64 ly] 85)).drew:=⟨(((Below.refl _ Wa).alloc (Nat.le_refl _) _).cell (p:=⟨b3,0,none⟩) y3').trans d3',(((Below.refl _ Wa).alloc (Nat.le_refl _) _).cell (p:=⟨bw,1,none⟩) yw').trans t1'⟩
  refine wpIn_region_order (ElS b3 bw true) 11 [(0,0),(1,0),(2,0),(3,0),(4,0),(5,0),(6,0),(7,0),(8,0),(9,1),(10,0),(11,2)] hmx (by kernel_rfl) ?_
  simp only[pick,List.filterMap_cons,List.filterMap_nil,List.getElem?_cons_zero,List.getElem?_cons_succ,Option.map_some]
  iterate 6 (refine wpF_take (v:=?_) hS rfl ?_ (fun _ _ _ h=>h) ?_;rotate_left;(· intro w' hS';obtain⟨e0,e1⟩:=hS';go_simp<;>rfl);go_simp)
  refine wpF_skip hS rfl (fun _ _ _ h=>h) ?_
  go_simp
  refine wpF_skip hS rfl (fun _ _ _ h=>h) ?_
  go_simp
  (refine wpF_take (v:=?_) hS rfl ?_ (fun _ _ _ h=>h) ?_;rotate_left;(· intro w' hS';obtain⟨e0,e1⟩:=hS';go_simp<;>rfl);go_simp)
  refine wpF_only rfl (fun K hK=>?_)
  go_wp2_with fail
  first|refine⟨fun _=>hS,?_⟩|refine⟨hS,?_⟩|skip
  (refine wpF_take (v:=?_) hS rfl ?_ (fun _ _ _ h=>h) ?_;rotate_left;(· intro w' hS';obtain⟨e0,e1⟩:=hS';go_simp<;>rfl);go_simp)
  refine wpF_only rfl (fun K hK=>?_)
  go_wp2_with fail
  refine⟨fun h=>absurd h (by decide),wpF_nil ⟨(by intro h;cases h),?_⟩⟩
  have z7:=(f.cell (p:=⟨b7,0,none⟩) y7).trans hd7
  have zf7:=(f.frozen (p:=⟨b7,0,none⟩) y7).trans hf7
  have y7':b7<Wa.heap.size:=by omega
  have nwb:¬bw=b7:=nb7
  have nbw:¬b7=bw:=fun h=>nb7 h.symm
  have hb':true=(b1||(pre++[x]).any fun s=>(parseNetA s).isNone):=by
   rw[List.any_append,List.any_cons,List.any_nil,Bool.or_false,←Bool.or_assoc,HB0.out]
   simp
  have HB':=Lib.hid hb'
  have HLV:∀b,(Value.slice A7 L.length c7).ownBlock=some b→bs+3≤b:=fun b hb=>(World.ownsRow.lt Q2.out b hb).1
  have hbx:Below Wa.heap.size (Wa.setCell ⟨bw,1,none⟩ (.bool true)) ((Wa.setCell ⟨bw,1,none⟩ (.bool true)).alloc (.cells #[.int .u32 (Ky:Int),.int .i64 ly] 85)):=((Below.refl _ _).alloc (by simp[World.setCell]) _)
  have HBX:=Lib.hid hbx
  have hown:((((Wa.setCell ⟨bw,1,none⟩ (.bool true)).alloc (.cells #[.int .u32 (Ky:Int),.int .i64 ly] 85)).alloc (.cells #[.int .u32 (Ky:Int),.int .i64 ly] 85)).drew).ownsRow (bs+3) 85 2 (.slice A7 L.length c7) L.length (flatR ntC L) :=
   own_arm (Q2.out.below (Nat.le_refl _) f) ⟨bw,1,none⟩ (by simp only;omega) _ hbx _
  have HOWN:=Lib.hid hown;have HLV':=Lib.hid HLV
  have hL6:L.length+1≤1000001:=by rw[Q3.out];obtain⟨r',hr'⟩:=HX.out;have:=spl_len 44 s;rw[hr'] at this;simp only[List.length_append,List.length_cons] at this;omega
  have hsz4:bs+3≤Wa.heap.size:=by have:=HI.out.sv.lt;omega
  clear hb' hown HLV hS hbx
  dsimp only
  gi_wp2_with (gi_at_builtin;refine wpListIn_append_own _ rfl _ _ 54 rfl (bs+3) 85 i0 (.agg #[.int .u32 0,.int .i64 0]) 2 16 Tryz.underlying54 hi0 hz0 hz1 hz2 rfl (by decide) (.slice A7 L.length c7) L.length (flatR ntC L) rfl HOWN.out ⟨Wa.heap.size+1,0,none⟩ 1 1 [.int .u32 (Ky:Int),.int .i64 ly] rfl rfl (arm_cells _ _ (by simp) [.int .u32 (Ky:Int),.int .i64 ly] 85) (by simp[Value.oneCell']) (by unfold maxLen;omega) (by omega) (by simp;omega) ?_;intro v' w' hown' hgrow _;obtain⟨g',cap',rfl⟩:=ownsRow_succ hown';obtain⟨a7,af7⟩:=arm_b7 HBX.out hgrow z7 zf7 y7' nbw HLV' (by omega))
  rw[HS.out]
  exact HI.out.step p1 p2 ES.out nb7 f Q1.out Q2.out Q3.out Q4.out (y:=(Ky,ly)) HY.out HB'.out HBX.out hown' hgrow
 case done =>
  intro D W hD hI hK
  have hI':=(ElI.own p1 p2 ES.out).putObj (.deferred none) hI (by rw[HS.out] at hD;exact hD) hK rfl
  obtain⟨v,L,q1,q2,q3,q4⟩:=hI.row
  obtain⟨v',L',q1',q2',q3',q4'⟩:=hI'.row
  obtain⟨A7,c7,hv7⟩:=OwnR.form (show W.ownsRow (bs+3) 85 2 v L.length (flatR ntC L) from q2)
  have hvv:v'=v:=by
   have e1:=q1'.cell 0
   have e2:=q1.cell 0
   have e3:(W.putObj D (.deferred none)).heap[b7]?=W.heap[b7]?:=World.putObj_heap_other (by omega)
   rw[World.cell?_of_block (a:=⟨b7,0,none⟩) e3,e2] at e1
   injection e1 with e1
   exact e1.symm
  subst hvv
  subst hv7
  have hd7:=q1.cell 0
  have HF:=Lib.hid (show Wd (W.putObj D (.deferred none)) M B bw r (b1||(mapO parseNetA (spl 44 s)).isNone)∧Off (fun b=>b=bw) w (W.putObj D (.deferred none))∧OwnR ntC 2 (W.putObj D (.deferred none)) w.heap.size 85 (.slice A7 L.length c7) L' from by
   refine⟨?_,?_,q2'.base_le (by rw[E3.out];omega)⟩
   ·refine⟨⟨hMb,Nat.le_trans HKB.out hI'.off.size⟩,A,nA,cA,?_,kn,kc,HK.out.offW HKB.out hI'.off fun b hb=>?_⟩
    ·rw[mapO_any];exact hI'.box
    rcases hb with rfl|rfl
    ·exact .inr (.inl rfl)
    exact .inr (.inr (by have:=HB7.out;omega))
   exact HO.out.trans hI'.off fun k hk hb=>by
    rcases hb with rfl|rfl
    ·rfl
    rw[E3.out] at hk;omega)
  have HQ:=Lib.hid q3';have HR:=Lib.hid q4'
  clear hI hI' q1 q2 q3 q4 q1' q2' q3' q4'
  gi_wp2
  refine⟨by simp,.inl ⟨_,_,rfl,run_takeDeferred hK,?_⟩⟩
  exact⟨.slice A7 L.length c7,(by simp[results,Tryz.results90,go_sem]),.slice A7 L.length c7,L',rfl,HF.out.2.2,HQ.out,HF.out.1,HF.out.2.1,HR.out⟩
 case stop =>
  intro D c pre W hD h
  exact h.elim
set_option maxRecDepth 100000 in
set_option maxHeartbeats 4000000 in
theorem elN_no(M B bw:Nat)(word:List UInt8)(ws:List (List UInt8))(bad:Bool)(w:World)(h:Wd w M B bw ws bad)
  (hi:∀u,Wd u M B bw ws bad→Calls Tryz.prog 55 #[.pointer (some ⟨bw,0,none⟩),.string (strB word)] u fun e w'=>e=.returned (.bool false)∧u=w') :
  Calls Tryz.prog 90 #[.pointer (some ⟨bw,0,none⟩),.string (strB word),.func (.func 91) #[] #[]] w fun e w' =>
   e=.returned (.slice none 0 0)∧Wd w' M B bw ws bad∧Off (fun b=>b=bw) w w':=by
 have kA:=(h.off (Off.of_all ((Below.refl _ w).alloc (Nat.le_refl _) (.cells #[.pointer (some ⟨bw,0,none⟩)] 95))) (fun _ h=>h.elim)).off (Off.of_all ((Below.refl _ _).alloc (Nat.le_refl _) (.cells #[.func (.func 91) #[] #[]] 128))) (fun _ h=>h.elim)
 have HIs:=Lib.hid hi;clear hi
 have HA:=Lib.hid (show Off (fun b=>b=bw) w ((w.alloc (.cells #[.pointer (some ⟨bw,0,none⟩)] 95)).alloc (.cells #[.func (.func 91) #[] #[]] 128)) from ((Off.refl _ w).alloc _).alloc _)
 refine (callsIn_wide (n:=9)).1 ?_
 refine callsIn_of_wp_marks Tryz.func90 rfl trivial ?_ rfl
 simp only[Tryz.ntmps90,List.size_toArray,List.length_cons,List.length_nil,Nat.reduceAdd,Nat.reduceSub,Array.replicate_succ,Array.replicate_zero,List.push_toArray,List.append_toArray,List.nil_append,List.cons_append]
 gi_wp2_with (refine⟨trivial,?_⟩;gi_at_call 55;refine (callsIn_wide.2 (HIs.out _ kA)).mono ?_;rintro e w2 ⟨rfl,rfl⟩)
 refine⟨.slice none 0 0,(by simp[results,Tryz.results90,go_sem]),rfl,kA,HA.out⟩
theorem elN_any(M B bw:Nat)(word:List UInt8)(ws:List (List UInt8))(bad:Bool)(w:World)(hW:LdW w)(hM:7<M)(hMw:M≤w.heap.size)(hs:∀s∈ws,s.length≤1000000)(h:Wd w M B bw ws bad) :
  Calls Tryz.prog 90 #[.pointer (some ⟨bw,0,none⟩),.string (strB word),.func (.func 91) #[] #[]] w fun e w'=>ElP ntC 2 85 parseNetA M B bw word ws bad w e w':=by
 cases ws with
 | nil =>
  refine (elN_no M B bw word [] bad w h fun u hu=>is_nil M B bw bad word u hu).mono ?_
  rintro e w' ⟨rfl,h1,h2⟩
  exact⟨_,[],[],rfl,OwnR.nil,by simp,by simpa [elemsO] using h1,h2,by simp,fun L0 r0 h0=>by injection h0 with h0;injection h0 with a b;exact⟨a,b⟩⟩
 | cons x r =>
  by_cases hx:x=word
  ·subst hx
   have hE:elemsO x parseNetA (x::r)=listO parseNetA r:=by rw[elemsO,if_pos rfl]
   cases r with
   | nil =>
    refine (elN_core M B bw x [] [x] [] bad true w hW hM hMw (by simp) (fun u hu=>is_yes M B bw bad x [] u hu) h (fun u hu=>take_nil M B bw bad u hu)).mono ?_
    rintro e w' ⟨v,L,rfl,h1,h2,h3,h4,h5⟩
    refine⟨v,L,[],rfl,h1,by rw[h2];decide,?_,h4,by simp,fun L0 r0 h0=>by rw[hE] at h0;cases h0⟩
    rw[hE]
    simpa [listO] using h3
   | cons s r2 =>
    have hs1:=hs s (by simp)
    refine (elN_core M B bw x s (x::s::r2) r2 bad (bad||s.isEmpty) w hW hM hMw hs1 (fun u hu=>is_yes M B bw bad x (s::r2) u hu) h (fun u hu=>take_cons M B bw bad s r2 u hu)).mono ?_
    rintro e w' ⟨v,L,rfl,h1,h2,h3,h4,h5⟩
    have hl:=spl_len 44 s
    refine⟨v,L,r2,rfl,h1,by omega,?_,h4,fun y hy=>by simp[hy],fun L0 r0 h0=>?_⟩
    ·rw[hE]
     by_cases he:s=[]
     ·subst he
      have e1:(mapO parseNetA (spl 44 [])).isNone=true:=by
       show (mapO parseNetA [[]]).isNone=true
       rw[mapO,readNt_nil];rfl
      rw[e1] at h3
      simpa [listO] using h3
     have e1:s.isEmpty=false:=by simpa using he
     rw[e1,Bool.or_false] at h3
     rw[listO,if_neg he]
     cases hm:mapO parseNetA (spl 44 s) with
     | none=>rw[hm] at h3;simpa using h3
     | some M0=>rw[hm] at h3;simpa using h3
    rw[hE,listO] at h0
    split at h0
    ·cases h0
    cases hm:mapO parseNetA (spl 44 s) with
    | none=>rw[hm] at h0;cases h0
    | some M0 =>
     rw[hm] at h0
     injection h0 with h0
     injection h0 with a b
     exact⟨by rw[h5 M0 hm,a],b⟩
  have hE:elemsO word parseNetA (x::r)=some ([],x::r):=by rw[elemsO,if_neg hx]
  refine (elN_no M B bw word (x::r) bad w h fun u hu=>is_no M B bw bad word x r u hu hx).mono ?_
  rintro e w' ⟨rfl,h1,h2⟩
  refine⟨_,[],x::r,rfl,OwnR.nil,by simp,by rw[hE];simpa using h1,h2,by simp,fun L0 r0 h0=>?_⟩
  rw[hE] at h0
  injection h0 with h0
  injection h0 with a b
  exact⟨a,b⟩
set_option maxRecDepth 100000 in
set_option maxHeartbeats 8000000 in
theorem elI_core(M B bw:Nat)(word s:List UInt8)(ws r:List (List UInt8))(bad b1:Bool)(w:World)(hW:LdW w)(hM:7<M)(hMw:M≤w.heap.size)(hs:s.length≤1000000)
  (hi:∀u,Wd u M B bw ws bad→Calls Tryz.prog 55 #[.pointer (some ⟨bw,0,none⟩),.string (strB word)] u fun e w'=>e=.returned (.bool true)∧Wd w' M B bw ws.tail bad∧Off (fun k=>k=bw) u w') (h:Wd w M B bw ws bad)
  (ht:∀u,Wd u M B bw ws.tail bad→Calls Tryz.prog 95 #[.pointer (some ⟨bw,0,none⟩)] u fun e w'=>e=.returned (.string (strB s))∧Wd w' M B bw r b1∧Off (fun k=>k=bw) u w') :
  Calls Tryz.prog 92 #[.pointer (some ⟨bw,0,none⟩),.string (strB word),.func (.func 93) #[] #[]] w fun e w' =>
   ∃(v:Value)(L:List Int),e=.returned v∧OwnR inC 1 w' w.heap.size 3 v L∧L.length=(spl 44 s).length∧Wd w' M B bw r (b1||(mapO readPt (spl 44 s)).isNone)∧Off (fun b=>b=bw) w w'∧∀L0,mapO readPt (spl 44 s)=some L0→L=L0:=by
 obtain⟨hMb,hbw⟩:=h.lt
 have HT:=Lib.hid ht;have HIs:=Lib.hid hi;clear ht hi
 have kA:=(h.off (Off.of_all ((Below.refl _ w).alloc (Nat.le_refl _) (.cells #[.pointer (some ⟨bw,0,none⟩)] 95))) (fun _ h=>h.elim)).off (Off.of_all ((Below.refl _ _).alloc (Nat.le_refl _) (.cells #[.func (.func 93) #[] #[]] 130))) (fun _ h=>h.elim)
 refine (callsIn_wide (n:=9)).1 ?_
 refine callsIn_of_wp_marks Tryz.func92 rfl trivial ?_ rfl
 simp only[Tryz.ntmps92,List.size_toArray,List.length_cons,List.length_nil,Nat.reduceAdd,Nat.reduceSub,Array.replicate_succ,Array.replicate_zero,List.push_toArray,List.append_toArray,List.nil_append,List.cons_append]
 gi_wp2_with (first
  | (refine⟨trivial,?_⟩;gi_at_call 55;refine (callsIn_wide.2 (HIs.out _ kA)).mono ?_;rintro e w2 ⟨rfl,k2,o2⟩;obtain⟨B3,B5,hz2⟩:=el_boxes hbw o2;have c3:=B3.cell 0;have l3:=B3.lt)
  | (refine⟨trivial,?_⟩;gi_at_call 95;refine (callsIn_wide.2 (HT.out _ (k2.off (Off.of_all ((Below.refl _ w2).alloc (Nat.le_refl _) (.cells #[.slice none 0 0] 40))) (fun _ h=>h.elim)))).mono ?_;rintro e w3 ⟨rfl,k3,o3⟩)
  | (refine⟨trivial,?_⟩;gi_at_call 134;refine (callsIn_wide.2 (splitSeq_any _ _ _)).mono ?_;rintro e w4 ⟨rfl,rfl⟩))
 obtain⟨c3',B3',B5',B7'⟩:w3.cell? ⟨w.heap.size,0,none⟩=some (.pointer (some ⟨bw,0,none⟩))∧Blk w3 w.heap.size 95 [.pointer (some ⟨bw,0,none⟩)]∧Blk w3 (w.heap.size+1) 130 [.func (.func 93) #[] #[]]∧Blk w3 w2.heap.size 40 [.slice none 0 0]:=by
  have a3:=(B3.alloc (.cells #[.slice none 0 0] 40)).off o3 (by omega)
  have a5:=(B5.alloc (.cells #[.slice none 0 0] 40)).off o3 (by omega)
  have a7:=(Blk.newAt (w:=w2) rfl 40 #[.slice none 0 0]).off o3 (by omega)
  exact⟨a3.cell 0,a3,a5,a7⟩
 have ho:Off (fun k=>k=bw) w w3:=(((((Off.refl (fun k=>k=bw) w).alloc _).alloc _).trans o2 fun _ _ h=>h).alloc _).trans o3 fun _ _ h=>h
 have hW3:=hW.offW hM hMb hMw ho
 have hs3:w2.heap.size+1≤w3.heap.size:=by have:=o3.size;simpa using this
 obtain⟨⟨_,kB⟩,A,nA,cA,kb,kn,kc,kr⟩:=id k3
 have hk3:=Lib.hid k3
 clear c3 l3 B3 B5 o2 o3 k2 k3 kA
 have kfrz:w3.frozen? ⟨w.heap.size,0,none⟩=false:=B3'.frozen 0
 have nb7:bw≠w2.heap.size:=by omega
 have hB7:B≤w2.heap.size:=by have:=h.1.2;omega
 have hz7:w.heap.size+2≤w2.heap.size:=hz2
 obtain⟨b3,e3⟩:∃b3,w.heap.size=b3:=⟨_,rfl⟩
 obtain⟨b7,e7⟩:∃b7,w2.heap.size=b7:=⟨_,rfl⟩
 obtain⟨bs,es⟩:∃bs,w3.heap.size=bs:=⟨_,rfl⟩
 rw[e3,e7,es]
 rw[e3] at hMw hbw c3' B3' B5' hz7
 rw[e7] at B7' hs3 nb7 hz7 hB7
 rw[es] at hs3
 obtain⟨W0,hW0⟩:∃W0,((w3.alloc (.cells #[.string (strB s)] 9)).alloc (.cells #[.string ⟨#[44]⟩] 9)).alloc (.cells #[.int .i64 0] 3)=W0:=⟨_,rfl⟩
 have hsz:W0.heap.size=bs+3:=by rw[←hW0,←es];simp
 have g0:Blk W0 bs 9 [.string (strB s)]:=by rw[←hW0,←es];exact ((Blk.newAt (w:=w3) rfl 9 #[.string (strB s)]).alloc _).alloc _
 have g1:Blk W0 (bs+1) 9 [.string ⟨#[44]⟩]:=by rw[←hW0,←es];exact (Blk.newAt (by simp) 9 #[.string ⟨#[44]⟩]).alloc _
 have g2:Blk W0 (bs+2) 3 [.int .i64 0]:=by rw[←hW0,←es];exact Blk.newAt (by simp) 3 #[.int .i64 0]
 have og:Off (fun b=>b=bw∨b=b7) w3 W0:=by rw[←hW0];exact (((Off.refl _ w3).alloc _).alloc _).alloc _
 rw[hW0]
 have hel0:ElI inC 1 3 40 readPt bw b7 bs A nA cA b1 w3 [] W0:=by
  refine⟨og,?_,⟨.slice none 0 0,[],?_,OwnR.nil,rfl,fun M hM=>by injection hM⟩,g1,g2⟩
  ·rw[List.any_nil,Bool.or_false,←hW0]
   exact ((kb.alloc _).alloc _).alloc _
  rw[←hW0]
  exact ((B7'.alloc _).alloc _).alloc _
 have p1:bw<w3.heap.size:=by omega
 have p2:b7<w3.heap.size:=by omega
 have p4:M≤w3.heap.size:=by omega
 have p5:M≤b7:=by omega
 have HC:=Lib.hid (show ∀W:World,Off (fun b=>b=bw∨b=b7) w3 W→Blk W b3 95 [.pointer (some ⟨bw,0,none⟩)]∧Blk W (b3+1) 130 [.func (.func 93) #[] #[]] from fun W o=>⟨B3'.off o (by omega),B5'.off o (by omega)⟩)
 have E3:=Lib.hid e3;have E7:=Lib.hid e7;have ES:=Lib.hid es;have HS:=Lib.hid hsz;have HE:=Lib.hid hel0;have HK:=Lib.hid kr;have HKB:=Lib.hid kB;have HB7:=Lib.hid (show B≤b7 from hB7);have HO:=Lib.hid ho;have HL:=Lib.hid hW3
 clear e3 e7 es hW0 g1 g2 og c3' B3' B5' B7' kb kr kB hB7 kfrz hel0
 refine wpIn_box (hro:=rfl) (h1:=by omega) (gf:=202) (lb:=#[.pointer (some ⟨bs+1,0,none⟩),.pointer (some ⟨bs,0,none⟩),.pointer (some ⟨bs+2,0,none⟩)]) rfl trivial (enters_of Tryz.func202 (by kernel_rfl) rfl)
  (split_box (9-1) (by omega) s bs (bs+1) (bs+2) W0 hs g0 (by omega) (by omega)) (by rw[hsz];omega) (fun _=>rfl)
  (ElI inC 1 3 40 readPt bw b7 bs A nA cA b1 w3) (fun _ _ _=>False) ?own (fun _ _ _ _ _ h _ _=>h) (ElI.blind p1 p2 ES.out) (fun pre W h=>⟨h.ld HL.out hM hMb p5 p4,h.sep.cell 0,h.sv.cell 0⟩) HE.out
  (fun x=>{ tmps:=#[.pointer (some ⟨bw,0,none⟩),.string (strB word),.func (.func 93) #[] #[],.pointer (some ⟨b3,0,none⟩),undef,.pointer (some ⟨b3+1,0,none⟩),.slice none 0 0,.pointer (some ⟨b7,0,none⟩),.string (strB x),undef,undef,.pointer (some ⟨bw,0,none⟩),.string (strB word),.bool true,.bool false,.pointer (some ⟨bw,0,none⟩),.string (strB s),.func (.func 202) #[] #[.pointer (some ⟨bs+1,0,none⟩),.pointer (some ⟨bs,0,none⟩),.pointer (some ⟨bs+2,0,none⟩)],.string (strB x),undef,undef,undef,undef,undef,undef,undef,undef,undef,undef,undef,undef,undef,undef,undef,undef,undef,undef,undef,undef,undef,undef],defers:=[] }) ?assign ?body ?done ?stop
 case own =>
  rw[HS.out]
  exact ElI.own p1 p2 ES.out
 case assign =>
  intro l x W K hK
  unfold encSt
  gi_wp2
  exact hK
 case body =>
  intro l pre x W hl hI hx
  obtain⟨z3,z5⟩:=HC.out W hI.off
  have d3:=z3.cell 0
  have d5:=z5.cell 0
  obtain⟨v,L,q1,q2,q3,q4⟩:=hI.row
  obtain⟨A7,c7,hv7⟩:=OwnR.form (show W.ownsRow (bs+3) 3 1 v L.length (flatR inC L) from q2)
  subst hv7
  have hld:LdW W:=hI.ld HL.out hM hMb p5 p4
  have hxl:x.length≤1000000:=by
   obtain⟨r',hr'⟩:=hx
   have:=spl_mem_len 44 s x (by rw[hr'];simp)
   omega
  have hrd:=fun(u:World)(hu:LdW u)=>readPort_any x u hu hxl
  have hrel:(readPt x).isNone= !(readPt x).isSome:=by cases readPt x<;>rfl
  unfold PtP at hrd
  obtain⟨ok,hokv⟩:∃ok,(readPt x).isSome=ok:=⟨_,rfl⟩
  rw[hokv] at hrd hrel
  clear hokv
  have hy:True:=trivial
  have HY:=Lib.hid hy;have HR:=Lib.hid hrel;have HX:=Lib.hid hx;have HI:=Lib.hid hI;have Q1:=Lib.hid q1;have Q2:=Lib.hid q2;have Q3:=Lib.hid q3;have Q4:=Lib.hid q4
  have bx:=hI.box
  obtain⟨B0,hB0⟩:∃B0,(b1||pre.any fun s=>(readPt s).isNone)=B0:=⟨_,rfl⟩
  rw[hB0] at bx
  have HB0:=Lib.hid hB0
  have hn1:1≤9-1-1:=by omega
  have hd7:=q1.cell 0
  have hf7:=q1.frozen 0
  have t1:=bx.cell 1
  have t2:=bx.frozen 1
  have y3:=z3.lt;have y5:=z5.lt;have y7:=q1.lt;have yw:=bx.lt
  clear hy hrel hx hI q1 q2 q3 q4 z3 z5 hB0
  gi_wp2_with (refine⟨trivial,?_⟩;gi_at_call 93;refine (CallsIn.inRound l (callsIn_wide.2 (hrd _ hld))).mono ?_;rintro e Wa ⟨Ky,rfl,hyk,f⟩;have HYK:=Lib.hid hyk;clear hyk;have d3':=(f.cell (p:=⟨b3,0,none⟩) y3).trans d3;have t1':=(f.cell (p:=⟨bw,1,none⟩) yw).trans t1;have t2':=(f.frozen (p:=⟨bw,1,none⟩) yw).trans t2;have zz:=f.size)
  have hmx:Tryz.prog.follows .mixedOrders=true:=by kernel_rfl
  have yw':bw<Wa.heap.size:=by omega
  have y3':b3<Wa.heap.size:=by omega
  clear d3 t1 t2 hrd d5 y5
  obtain⟨i0,hi0,hz0,hz1,hz2⟩:=info_parts ZIn.info
  rcases B0 with _|_
  ·skip
   have hS:ElS b3 bw false Wa.drew:=⟨d3',t1'⟩
   refine wpIn_region_order (ElS b3 bw false) 11 [(0,0),(1,0),(2,0),(3,0),(4,0),(5,0),(6,0),(7,0),(8,0),(9,1),(10,0),(11,2)] hmx (by kernel_rfl) ?_
   simp only[pick,List.filterMap_cons,List.filterMap_nil,List.getElem?_cons_zero,List.getElem?_cons_succ,Option.map_some]
   iterate 9 (refine wpF_take (v:=?_) hS rfl ?_ (fun _ _ _ h=>h) ?_;rotate_left;(· intro w' hS';obtain⟨e0,e1⟩:=hS';go_simp<;>rfl);go_simp)
   refine wpF_only rfl (fun K hK=>?_)
   go_wp2_with fail
   first|refine⟨fun _=>hS,?_⟩|refine⟨hS,?_⟩|skip
   (refine wpF_take (v:=?_) hS rfl ?_ (fun _ _ _ h=>h) ?_;rotate_left;(· intro w' hS';obtain⟨e0,e1⟩:=hS';go_simp<;>rfl);go_simp)
   refine wpF_only rfl (fun K hK=>?_)
   go_wp2_with fail
   refine⟨fun h=>absurd h (by decide),wpF_nil ⟨(by intro h;cases h),?_⟩⟩
   have z7:=(f.cell (p:=⟨b7,0,none⟩) y7).trans hd7
   have zf7:=(f.frozen (p:=⟨b7,0,none⟩) y7).trans hf7
   have y7':b7<Wa.heap.size:=by omega
   have nwb:¬bw=b7:=nb7
   have nbw:¬b7=bw:=fun h=>nb7 h.symm
   obtain⟨bb,hbb⟩:∃bb,(!ok)=bb:=⟨_,rfl⟩
   rw[hbb]
   have hb':bb=(b1||(pre++[x]).any fun s=>(readPt s).isNone):=by
    rw[List.any_append,List.any_cons,List.any_nil,Bool.or_false,←Bool.or_assoc,HB0.out,HR.out,←hbb]
    cases ok<;>simp
   have HB':=Lib.hid hb'
   have HLV:∀b,(Value.slice A7 L.length c7).ownBlock=some b→bs+3≤b:=fun b hb=>(World.ownsRow.lt Q2.out b hb).1
   have hbx:Below Wa.heap.size (Wa.setCell ⟨bw,1,none⟩ (.bool bb)) (Wa.setCell ⟨bw,1,none⟩ (.bool bb)):=(Below.refl _ _)
   have HBX:=Lib.hid hbx
   have hown:(((Wa.setCell ⟨bw,1,none⟩ (.bool bb)).alloc (.cells #[.int .i64 Ky] 3)).drew).ownsRow (bs+3) 3 1 (.slice A7 L.length c7) L.length (flatR inC L) :=
    own_arm (Q2.out.below (Nat.le_refl _) f) ⟨bw,1,none⟩ (by simp only;omega) _ hbx _
   have HOWN:=Lib.hid hown;have HLV':=Lib.hid HLV
   have hL6:L.length+1≤1000001:=by rw[Q3.out];obtain⟨r',hr'⟩:=HX.out;have:=spl_len 44 s;rw[hr'] at this;simp only[List.length_append,List.length_cons] at this;omega
   have hsz4:bs+3≤Wa.heap.size:=by have:=HI.out.sv.lt;omega
   clear hbb hb' hown HLV hS hbx
   dsimp only
   gi_wp2_with (gi_at_builtin;refine wpListIn_append_own _ rfl _ _ 40 rfl (bs+3) 3 i0 (.int .i64 0) 1 8 Tryz.underlying40 hi0 hz0 hz1 hz2 rfl (by decide) (.slice A7 L.length c7) L.length (flatR inC L) rfl HOWN.out ⟨Wa.heap.size,0,none⟩ 1 1 [.int .i64 Ky] rfl rfl (arm_cells _ _ (by simp) [.int .i64 Ky] 3) (by simp[Value.oneCell']) (by unfold maxLen;omega) (by omega) (by simp;omega) ?_;intro v' w' hown' hgrow _;obtain⟨g',cap',rfl⟩:=ownsRow_succ hown';obtain⟨a7,af7⟩:=arm_b7 HBX.out hgrow z7 zf7 y7' nbw HLV' (by omega))
   rw[HS.out]
   exact HI.out.step p1 p2 ES.out nb7 f Q1.out Q2.out Q3.out Q4.out (y:=Ky) HYK.out HB'.out HBX.out hown' hgrow
  skip
  have hS:ElS b3 bw true Wa.drew:=⟨d3',t1'⟩
  refine wpIn_region_order (ElS b3 bw true) 11 [(0,0),(1,0),(2,0),(3,0),(4,0),(5,0),(6,0),(7,0),(8,0),(9,1),(10,0),(11,2)] hmx (by kernel_rfl) ?_
  simp only[pick,List.filterMap_cons,List.filterMap_nil,List.getElem?_cons_zero,List.getElem?_cons_succ,Option.map_some]
  iterate 6 (refine wpF_take (v:=?_) hS rfl ?_ (fun _ _ _ h=>h) ?_;rotate_left;(· intro w' hS';obtain⟨e0,e1⟩:=hS';go_simp<;>rfl);go_simp)
  refine wpF_skip hS rfl (fun _ _ _ h=>h) ?_
  go_simp
  refine wpF_skip hS rfl (fun _ _ _ h=>h) ?_
  go_simp
  (refine wpF_take (v:=?_) hS rfl ?_ (fun _ _ _ h=>h) ?_;rotate_left;(· intro w' hS';obtain⟨e0,e1⟩:=hS';go_simp<;>rfl);go_simp)
  refine wpF_only rfl (fun K hK=>?_)
  go_wp2_with fail
  first|refine⟨fun _=>hS,?_⟩|refine⟨hS,?_⟩|skip
  (refine wpF_take (v:=?_) hS rfl ?_ (fun _ _ _ h=>h) ?_;rotate_left;(· intro w' hS';obtain⟨e0,e1⟩:=hS';go_simp<;>rfl);go_simp)
  refine wpF_only rfl (fun K hK=>?_)
  go_wp2_with fail
  refine⟨fun h=>absurd h (by decide),wpF_nil ⟨(by intro h;cases h),?_⟩⟩
  have z7:=(f.cell (p:=⟨b7,0,none⟩) y7).trans hd7
  have zf7:=(f.frozen (p:=⟨b7,0,none⟩) y7).trans hf7
  have y7':b7<Wa.heap.size:=by omega
  have nwb:¬bw=b7:=nb7
  have nbw:¬b7=bw:=fun h=>nb7 h.symm
  have hb':true=(b1||(pre++[x]).any fun s=>(readPt s).isNone):=by
   rw[List.any_append,List.any_cons,List.any_nil,Bool.or_false,←Bool.or_assoc,HB0.out]
   simp
  have HB':=Lib.hid hb'
  have HLV:∀b,(Value.slice A7 L.length c7).ownBlock=some b→bs+3≤b:=fun b hb=>(World.ownsRow.lt Q2.out b hb).1
  have hbx:Below Wa.heap.size (Wa.setCell ⟨bw,1,none⟩ (.bool true)) (Wa.setCell ⟨bw,1,none⟩ (.bool true)):=(Below.refl _ _)
  have HBX:=Lib.hid hbx
  have hown:(((Wa.setCell ⟨bw,1,none⟩ (.bool true)).alloc (.cells #[.int .i64 Ky] 3)).drew).ownsRow (bs+3) 3 1 (.slice A7 L.length c7) L.length (flatR inC L) :=
   own_arm (Q2.out.below (Nat.le_refl _) f) ⟨bw,1,none⟩ (by simp only;omega) _ hbx _
  have HOWN:=Lib.hid hown;have HLV':=Lib.hid HLV
  have hL6:L.length+1≤1000001:=by rw[Q3.out];obtain⟨r',hr'⟩:=HX.out;have:=spl_len 44 s;rw[hr'] at this;simp only[List.length_append,List.length_cons] at this;omega
  have hsz4:bs+3≤Wa.heap.size:=by have:=HI.out.sv.lt;omega
  clear hb' hown HLV hS hbx
  dsimp only
  gi_wp2_with (gi_at_builtin;refine wpListIn_append_own _ rfl _ _ 40 rfl (bs+3) 3 i0 (.int .i64 0) 1 8 Tryz.underlying40 hi0 hz0 hz1 hz2 rfl (by decide) (.slice A7 L.length c7) L.length (flatR inC L) rfl HOWN.out ⟨Wa.heap.size,0,none⟩ 1 1 [.int .i64 Ky] rfl rfl (arm_cells _ _ (by simp) [.int .i64 Ky] 3) (by simp[Value.oneCell']) (by unfold maxLen;omega) (by omega) (by simp;omega) ?_;intro v' w' hown' hgrow _;obtain⟨g',cap',rfl⟩:=ownsRow_succ hown';obtain⟨a7,af7⟩:=arm_b7 HBX.out hgrow z7 zf7 y7' nbw HLV' (by omega))
  rw[HS.out]
  exact HI.out.step p1 p2 ES.out nb7 f Q1.out Q2.out Q3.out Q4.out (y:=Ky) HYK.out HB'.out HBX.out hown' hgrow
 case done =>
  intro D W hD hI hK
  have hI':=(ElI.own p1 p2 ES.out).putObj (.deferred none) hI (by rw[HS.out] at hD;exact hD) hK rfl
  obtain⟨v,L,q1,q2,q3,q4⟩:=hI.row
  obtain⟨v',L',q1',q2',q3',q4'⟩:=hI'.row
  obtain⟨A7,c7,hv7⟩:=OwnR.form (show W.ownsRow (bs+3) 3 1 v L.length (flatR inC L) from q2)
  have hvv:v'=v:=by
   have e1:=q1'.cell 0
   have e2:=q1.cell 0
   have e3:(W.putObj D (.deferred none)).heap[b7]?=W.heap[b7]?:=World.putObj_heap_other (by omega)
   rw[World.cell?_of_block (a:=⟨b7,0,none⟩) e3,e2] at e1
   injection e1 with e1
   exact e1.symm
  subst hvv
  subst hv7
  have hd7:=q1.cell 0
  have HF:=Lib.hid (show Wd (W.putObj D (.deferred none)) M B bw r (b1||(mapO readPt (spl 44 s)).isNone)∧Off (fun b=>b=bw) w (W.putObj D (.deferred none))∧OwnR inC 1 (W.putObj D (.deferred none)) w.heap.size 3 (.slice A7 L.length c7) L' from by
   refine⟨?_,?_,q2'.base_le (by rw[E3.out];omega)⟩
   ·refine⟨⟨hMb,Nat.le_trans HKB.out hI'.off.size⟩,A,nA,cA,?_,kn,kc,HK.out.offW HKB.out hI'.off fun b hb=>?_⟩
    ·rw[mapO_any];exact hI'.box
    rcases hb with rfl|rfl
    ·exact .inr (.inl rfl)
    exact .inr (.inr (by have:=HB7.out;omega))
   exact HO.out.trans hI'.off fun k hk hb=>by
    rcases hb with rfl|rfl
    ·rfl
    rw[E3.out] at hk;omega)
  have HQ:=Lib.hid q3';have HR:=Lib.hid q4'
  clear hI hI' q1 q2 q3 q4 q1' q2' q3' q4'
  gi_wp2
  refine⟨by simp,.inl ⟨_,_,rfl,run_takeDeferred hK,?_⟩⟩
  exact⟨.slice A7 L.length c7,(by simp[results,Tryz.results92,go_sem]),.slice A7 L.length c7,L',rfl,HF.out.2.2,HQ.out,HF.out.1,HF.out.2.1,HR.out⟩
 case stop =>
  intro D c pre W hD h
  exact h.elim
set_option maxRecDepth 100000 in
set_option maxHeartbeats 4000000 in
theorem elI_no(M B bw:Nat)(word:List UInt8)(ws:List (List UInt8))(bad:Bool)(w:World)(h:Wd w M B bw ws bad)
  (hi:∀u,Wd u M B bw ws bad→Calls Tryz.prog 55 #[.pointer (some ⟨bw,0,none⟩),.string (strB word)] u fun e w'=>e=.returned (.bool false)∧u=w') :
  Calls Tryz.prog 92 #[.pointer (some ⟨bw,0,none⟩),.string (strB word),.func (.func 93) #[] #[]] w fun e w' =>
   e=.returned (.slice none 0 0)∧Wd w' M B bw ws bad∧Off (fun b=>b=bw) w w':=by
 have kA:=(h.off (Off.of_all ((Below.refl _ w).alloc (Nat.le_refl _) (.cells #[.pointer (some ⟨bw,0,none⟩)] 95))) (fun _ h=>h.elim)).off (Off.of_all ((Below.refl _ _).alloc (Nat.le_refl _) (.cells #[.func (.func 93) #[] #[]] 130))) (fun _ h=>h.elim)
 have HIs:=Lib.hid hi;clear hi
 have HA:=Lib.hid (show Off (fun b=>b=bw) w ((w.alloc (.cells #[.pointer (some ⟨bw,0,none⟩)] 95)).alloc (.cells #[.func (.func 93) #[] #[]] 130)) from ((Off.refl _ w).alloc _).alloc _)
 refine (callsIn_wide (n:=9)).1 ?_
 refine callsIn_of_wp_marks Tryz.func92 rfl trivial ?_ rfl
 simp only[Tryz.ntmps92,List.size_toArray,List.length_cons,List.length_nil,Nat.reduceAdd,Nat.reduceSub,Array.replicate_succ,Array.replicate_zero,List.push_toArray,List.append_toArray,List.nil_append,List.cons_append]
 gi_wp2_with (refine⟨trivial,?_⟩;gi_at_call 55;refine (callsIn_wide.2 (HIs.out _ kA)).mono ?_;rintro e w2 ⟨rfl,rfl⟩)
 refine⟨.slice none 0 0,(by simp[results,Tryz.results92,go_sem]),rfl,kA,HA.out⟩
theorem elI_any(M B bw:Nat)(word:List UInt8)(ws:List (List UInt8))(bad:Bool)(w:World)(hW:LdW w)(hM:7<M)(hMw:M≤w.heap.size)(hs:∀s∈ws,s.length≤1000000)(h:Wd w M B bw ws bad) :
  Calls Tryz.prog 92 #[.pointer (some ⟨bw,0,none⟩),.string (strB word),.func (.func 93) #[] #[]] w fun e w'=>ElP inC 1 3 readPt M B bw word ws bad w e w':=by
 cases ws with
 | nil =>
  refine (elI_no M B bw word [] bad w h fun u hu=>is_nil M B bw bad word u hu).mono ?_
  rintro e w' ⟨rfl,h1,h2⟩
  exact⟨_,[],[],rfl,OwnR.nil,by simp,by simpa [elemsO] using h1,h2,by simp,fun L0 r0 h0=>by injection h0 with h0;injection h0 with a b;exact⟨a,b⟩⟩
 | cons x r =>
  by_cases hx:x=word
  ·subst hx
   have hE:elemsO x readPt (x::r)=listO readPt r:=by rw[elemsO,if_pos rfl]
   cases r with
   | nil =>
    refine (elI_core M B bw x [] [x] [] bad true w hW hM hMw (by simp) (fun u hu=>is_yes M B bw bad x [] u hu) h (fun u hu=>take_nil M B bw bad u hu)).mono ?_
    rintro e w' ⟨v,L,rfl,h1,h2,h3,h4,h5⟩
    refine⟨v,L,[],rfl,h1,by rw[h2];decide,?_,h4,by simp,fun L0 r0 h0=>by rw[hE] at h0;cases h0⟩
    rw[hE]
    simpa [listO] using h3
   | cons s r2 =>
    have hs1:=hs s (by simp)
    refine (elI_core M B bw x s (x::s::r2) r2 bad (bad||s.isEmpty) w hW hM hMw hs1 (fun u hu=>is_yes M B bw bad x (s::r2) u hu) h (fun u hu=>take_cons M B bw bad s r2 u hu)).mono ?_
    rintro e w' ⟨v,L,rfl,h1,h2,h3,h4,h5⟩
    have hl:=spl_len 44 s
    refine⟨v,L,r2,rfl,h1,by omega,?_,h4,fun y hy=>by simp[hy],fun L0 r0 h0=>?_⟩
    ·rw[hE]
     by_cases he:s=[]
     ·subst he
      have e1:(mapO readPt (spl 44 [])).isNone=true:=by
       show (mapO readPt [[]]).isNone=true
       rw[mapO,readPt_nil];rfl
      rw[e1] at h3
      simpa [listO] using h3
     have e1:s.isEmpty=false:=by simpa using he
     rw[e1,Bool.or_false] at h3
     rw[listO,if_neg he]
     cases hm:mapO readPt (spl 44 s) with
     | none=>rw[hm] at h3;simpa using h3
     | some M0=>rw[hm] at h3;simpa using h3
    rw[hE,listO] at h0
    split at h0
    ·cases h0
    cases hm:mapO readPt (spl 44 s) with
    | none=>rw[hm] at h0;cases h0
    | some M0 =>
     rw[hm] at h0
     injection h0 with h0
     injection h0 with a b
     exact⟨by rw[h5 M0 hm,a],b⟩
  have hE:elemsO word readPt (x::r)=some ([],x::r):=by rw[elemsO,if_neg hx]
  refine (elI_no M B bw word (x::r) bad w h fun u hu=>is_no M B bw bad word x r u hu hx).mono ?_
  rintro e w' ⟨rfl,h1,h2⟩
  refine⟨_,[],x::r,rfl,OwnR.nil,by simp,by rw[hE];simpa using h1,h2,by simp,fun L0 r0 h0=>?_⟩
  rw[hE] at h0
  injection h0 with h0
  injection h0 with a b
  exact⟨a,b⟩
end Go.Proofs.YtpcdmbajfmnoiaaGreatDoor
