/- Policies that the document's Parse has read so far: a row whose last policy's last rule grows. No condition. Printed by gen_rsty.py. The document's part of a rule: gatepostref15.part. Conditions: sizes. Printed by gen_rspart.py. The document's part of a rule: gatepostref15.part: what it answers. Conditions: sizes. Printed by gen_rspartw.py. The document's part of a rule: gatepostref15.part, a line that begins with from. Conditions: sizes. Printed by gen_rspartw.py. The document's part of a rule: gatepostref15.part, a line that begins with to. Conditions: sizes. Printed by gen_rspartw.py. The document's part of a rule: gatepostref15.part, a line that begins with when, or with another word. Conditions: sizes. Printed by gen_rspartw.py. The document's Parse: gatepostref15.Parse: its steps. Conditions: sizes. Printed by gen_rsparse.py. The document's Parse: gatepostref15.Parse. Conditions: sizes. Printed by gen_rsparse.py. -/
import Derived.Test.YtpcdmbajfmnoiaaGreatDoorTxAll
import Derived.Test.YtpcdmbajfmnoiaaGreatDoorRsRdAll
import Derived.Test.YtpcdmbajfmnoiaaGreatDoorSynPsR
namespace Go.Proofs.YtpcdmbajfmnoiaaGreatDoor
set_option linter.unusedVariables false
set_option linter.unusedSimpArgs false
open Go.RowKit
section
variable {X X' K K':Nat→Bool} {lo:Nat} {w w' w'':World} {l:List Po} {lv rv:Value} {p p':Po}
theorem RulesX.addF{R0:List Ru}{r:Ru}(hr:RulesX K X w lo rv (R0++[r]))(hkk:∀b,K b=true→lo≤b∧b<w.heap.size∧X b=false)(hxx:∀b,X b=true→b<w.heap.size)(hlo:lo≤w.heap.size){g cg:Nat}(hg:rv=.slice (some ⟨g,0,none⟩) (R0.length+1) cg){A:Option Addr}{n c:Nat}(hv:w.cell? ⟨g,R0.length*3,none⟩=some (.slice A n c))
  {s:Sr} {cs:List Value} (hk:cs.length=3) (h1c:∀u∈cs,u.oneCell'=true) {ad:Addr} {c9:Nat} (hc:∀j u,cs[j]?=some u→w.cell? (ad.add j)=some u) (hs:SrP (keepW K w) w.heap.size cs s) (hl:n+1≤1000000) (ty:TypeId) :
  ∃A' c' w',(Builtin.append_ #[47,47] ty #[.slice A n c,.slice (some ad) 1 c9]).run Tryz.prog w=.ok (.slice A' (n+1) c') w'∧w.grownBy w' (Value.slice A n c).ownBlock∧(∀b,(Value.slice A n c).ownBlock=some b→b≠g∧lo≤b∧X b=false∧K b=false∧∃cur,w.heap[b]?=some (.cells cur 56 (0,0))) ∧
   RulesX K X (w'.setCell ⟨g,R0.length*3,none⟩ (.slice A' (n+1) c')) lo rv (R0++[⟨r.froms++[s],r.tos,r.whens⟩])∧FrT X lo w (w'.setCell ⟨g,R0.length*3,none⟩ (.slice A' (n+1) c')):=by
 obtain⟨g',cg',cur,css,u1,u2,u3,e1,e2,e3,e4,e5,e6,e7,e8,e9,g2,g3,g4,g5,g6,g7⟩:=hr.last
 rw[hg] at e1
 injection e1 with e1 _ _
 injection e1 with e1
 injection e1 with e1 _ _
 subst e1
 have hme:u1=.slice A n c:=by
  have:=(e5.cell (R0.length*3)).symm.trans hv
  rw[e7] at this
  injection this
 subst hme
 have hn:r.froms.length=n:=g6.1.1.len
 obtain⟨A',c',w',hrun,a1,a2,a3⟩:=run_appendK ZSr SrP.mn ty g6.1.1 (fun b hb=>(g6.1.2 b hb).1) (c2:=c9) hk h1c hc hs (by omega) (by unfold maxLen;omega) hlo
 have hot:=fun b (hb:(Value.slice A n c).ownBlock=some b)=>g6.1.1.typed hb
 have hog:∀b,(Value.slice A n c).ownBlock=some b→b≠g:=fun b hb=>Ne.symm (cells_ne e5 (hot b hb) (by decide))
 have hgs:Sep K X rv:=g7
 have hrg:rv.ownBlock=some g:=by rw[hg];rfl
 obtain⟨hKg,hXg⟩:=hgs g hrg
 have same:∀b,b<w.heap.size→some b≠(Value.slice A n c).ownBlock→b≠g→(w'.setCell ⟨g,R0.length*3,none⟩ (.slice A' (n+1) c')).heap[b]?=w.heap[b]?:=fun b hb h1 h2=>(Below.heap_setCell w' ⟨g,R0.length*3,none⟩ _ b h2).trans (a2.block b hb h1)
 have hsz:w.heap.size≤(w'.setCell ⟨g,R0.length*3,none⟩ (.slice A' (n+1) c')).heap.size:=by have:=a2.size;simpa [World.setCell] using this
 have ksame:∀b,b<w.heap.size→K b=true→K b=true∧(w'.setCell ⟨g,R0.length*3,none⟩ (.slice A' (n+1) c')).heap[b]?=w.heap[b]?:=fun b hb hkb=>⟨hkb,same b hb (fun e=>by have:=(g6.1.2 b e.symm).1;rw[hkb] at this;cases this) (fun e=>by rw[e,hKg] at hkb;cases hkb)⟩
 refine⟨A',c',w',hrun,a2,fun b hb=>⟨hog b hb,(g6.1.1.lt b hb).1,(g6.1.2 b hb).2,(g6.1.2 b hb).1,hot b hb⟩,.inr ⟨R0,⟨r.froms++[s],r.tos,r.whens⟩,css,(.slice A' (n+1) c'),u2,u3,rfl,g2,?_,g4,fun j hj hc'=>?_,?_,g7⟩,?_⟩
 ·have hw:w'.ownsRow lo 50 3 rv (R0.length+1) (css.flatten++[(.slice A n c),u2,u3]):=ownsRow_move g3 fun b hb=>a2.block b (g3.lt b hb).2 fun e=>typed_ne (w:=w) (hot b e.symm) (ownsRow_typed g3 hb) (by decide) rfl
  have hf:css.flatten.length=R0.length*3:=by rw[flat3 css fun c hc=>(g4 c hc).1,g2]
  have:=ownsRow_set (u:=.slice A' (n+1) c') (i:=R0.length*3) hw hrg (by rw[List.length_append,hf];simp)
  rwa [(set_at hf).1] at this
 ·exact RuP.mn _ _ _ _ _ _ hsz (Sub.keep ksame) (g5 j hj hc')
 ·have oth:∀{α:Type} {k e:Nat} {Q:World→Nat→List Value→α→Prop} {v:Value} {L:List α},Mn Q→GrK K k Q w lo e v L→e≠56→e≠50→GrK K k Q (w'.setCell ⟨g,R0.length*3,none⟩ (.slice A' (n+1) c')) lo e v L:=fun hQ hG h1 h2 =>
   hG.move hQ hsz ksame fun b hb=>same b (hG.lt b hb).2 (fun e=>typed_ne (w:=w) (hot b e.symm) (hG.typed hb) (Ne.symm h1) rfl) fun e=>cells_ne e5 (hG.typed hb) (Ne.symm h2) e.symm
  have mine:GrK K 3 SrP (w'.setCell ⟨g,R0.length*3,none⟩ (.slice A' (n+1) c')) lo 56 (.slice A' (n+1) c') (r.froms++[s]):=by
   refine a1.move SrP.mn (by simp[World.setCell]) (fun b hb hkb=>⟨hkb,Below.heap_setCell w' ⟨g,R0.length*3,none⟩ _ b fun e=>?_⟩) fun b hb=>Below.heap_setCell w' ⟨g,R0.length*3,none⟩ _ b fun e=>?_
   ·rw[show b=g from e,hKg] at hkb;cases hkb
   have e9:w'.heap[g]?=w.heap[g]?:=a2.block g e5.lt fun e=>hog g e.symm rfl
   exact typed_ne (w:=w') (a1.typed hb) ⟨_,e9.trans e5⟩ (by decide) e
  have sepm:Sep K X (.slice A' (n+1) c'):=fun b hb=>by
   rcases a3 with e|e
   ·rw[e] at hb
    exact g6.1.2 b hb
   rw[e] at hb
   injection hb with hb
   subst hb
   refine⟨?_,?_⟩
   ·cases hkb:K w.heap.size with
    | false=>rfl
    | true=>have:=(hkk _ hkb).2.1;omega
   cases hkb:X w.heap.size with
   | false=>rfl
   | true=>have:=hxx _ hkb;omega
  exact⟨⟨mine,sepm⟩,⟨oth TgP.mn g6.2.1.1 (by decide) (by decide),g6.2.1.2⟩,⟨oth WnP.mn g6.2.2.1 (by decide) (by decide),g6.2.2.2⟩⟩
 refine (FrT.grown a2 fun b hb=>?_).trans (FrT.grown (row:=some g) ⟨rfl,rfl,rfl,by simp[World.setCell],fun k _ hne=>Below.heap_setCell w' ⟨g,R0.length*3,none⟩ _ k fun e=>hne (by rw[e])⟩ fun b hb=>?_)
 ·obtain⟨cur,hc⟩:=hot b hb
  exact⟨(g6.1.1.lt b hb).1,(g6.1.2 b hb).2,cur,_,_,hc⟩
 injection hb with hb
 subst hb
 exact⟨e4,hXg,_,_,_,(a2.block g e5.lt fun e=>hog g e.symm rfl).trans e5⟩
theorem RulesX.addT{R0:List Ru}{r:Ru}(hr:RulesX K X w lo rv (R0++[r]))(hkk:∀b,K b=true→lo≤b∧b<w.heap.size∧X b=false)(hxx:∀b,X b=true→b<w.heap.size)(hlo:lo≤w.heap.size){g cg:Nat}(hg:rv=.slice (some ⟨g,0,none⟩) (R0.length+1) cg){A:Option Addr}{n c:Nat}(hv:w.cell? ⟨g,R0.length*3+1,none⟩=some (.slice A n c))
  {s:Tg} {cs:List Value} (hk:cs.length=4) (h1c:∀u∈cs,u.oneCell'=true) {ad:Addr} {c9:Nat} (hc:∀j u,cs[j]?=some u→w.cell? (ad.add j)=some u) (hs:TgP (keepW K w) w.heap.size cs s) (hl:n+1≤1000000) (ty:TypeId) :
  ∃A' c' w',(Builtin.append_ #[46,46] ty #[.slice A n c,.slice (some ad) 1 c9]).run Tryz.prog w=.ok (.slice A' (n+1) c') w'∧w.grownBy w' (Value.slice A n c).ownBlock∧(∀b,(Value.slice A n c).ownBlock=some b→b≠g∧lo≤b∧X b=false∧K b=false∧∃cur,w.heap[b]?=some (.cells cur 45 (0,0))) ∧
   RulesX K X (w'.setCell ⟨g,R0.length*3+1,none⟩ (.slice A' (n+1) c')) lo rv (R0++[⟨r.froms,r.tos++[s],r.whens⟩])∧FrT X lo w (w'.setCell ⟨g,R0.length*3+1,none⟩ (.slice A' (n+1) c')):=by
 obtain⟨g',cg',cur,css,u1,u2,u3,e1,e2,e3,e4,e5,e6,e7,e8,e9,g2,g3,g4,g5,g6,g7⟩:=hr.last
 rw[hg] at e1
 injection e1 with e1 _ _
 injection e1 with e1
 injection e1 with e1 _ _
 subst e1
 have hme:u2=.slice A n c:=by
  have:=(e5.cell (R0.length*3+1)).symm.trans hv
  rw[e8] at this
  injection this
 subst hme
 have hn:r.tos.length=n:=g6.2.1.1.len
 obtain⟨A',c',w',hrun,a1,a2,a3⟩:=run_appendK ZTg TgP.mn ty g6.2.1.1 (fun b hb=>(g6.2.1.2 b hb).1) (c2:=c9) hk h1c hc hs (by omega) (by unfold maxLen;omega) hlo
 have hot:=fun b (hb:(Value.slice A n c).ownBlock=some b)=>g6.2.1.1.typed hb
 have hog:∀b,(Value.slice A n c).ownBlock=some b→b≠g:=fun b hb=>Ne.symm (cells_ne e5 (hot b hb) (by decide))
 have hgs:Sep K X rv:=g7
 have hrg:rv.ownBlock=some g:=by rw[hg];rfl
 obtain⟨hKg,hXg⟩:=hgs g hrg
 have same:∀b,b<w.heap.size→some b≠(Value.slice A n c).ownBlock→b≠g→(w'.setCell ⟨g,R0.length*3+1,none⟩ (.slice A' (n+1) c')).heap[b]?=w.heap[b]?:=fun b hb h1 h2=>(Below.heap_setCell w' ⟨g,R0.length*3+1,none⟩ _ b h2).trans (a2.block b hb h1)
 have hsz:w.heap.size≤(w'.setCell ⟨g,R0.length*3+1,none⟩ (.slice A' (n+1) c')).heap.size:=by have:=a2.size;simpa [World.setCell] using this
 have ksame:∀b,b<w.heap.size→K b=true→K b=true∧(w'.setCell ⟨g,R0.length*3+1,none⟩ (.slice A' (n+1) c')).heap[b]?=w.heap[b]?:=fun b hb hkb=>⟨hkb,same b hb (fun e=>by have:=(g6.2.1.2 b e.symm).1;rw[hkb] at this;cases this) (fun e=>by rw[e,hKg] at hkb;cases hkb)⟩
 refine⟨A',c',w',hrun,a2,fun b hb=>⟨hog b hb,(g6.2.1.1.lt b hb).1,(g6.2.1.2 b hb).2,(g6.2.1.2 b hb).1,hot b hb⟩,.inr ⟨R0,⟨r.froms,r.tos++[s],r.whens⟩,css,u1,(.slice A' (n+1) c'),u3,rfl,g2,?_,g4,fun j hj hc'=>?_,?_,g7⟩,?_⟩
 ·have hw:w'.ownsRow lo 50 3 rv (R0.length+1) (css.flatten++[u1,(.slice A n c),u3]):=ownsRow_move g3 fun b hb=>a2.block b (g3.lt b hb).2 fun e=>typed_ne (w:=w) (hot b e.symm) (ownsRow_typed g3 hb) (by decide) rfl
  have hf:css.flatten.length=R0.length*3:=by rw[flat3 css fun c hc=>(g4 c hc).1,g2]
  have:=ownsRow_set (u:=.slice A' (n+1) c') (i:=R0.length*3+1) hw hrg (by rw[List.length_append,hf];simp)
  rwa [(set_at hf).2.1] at this
 ·exact RuP.mn _ _ _ _ _ _ hsz (Sub.keep ksame) (g5 j hj hc')
 ·have oth:∀{α:Type} {k e:Nat} {Q:World→Nat→List Value→α→Prop} {v:Value} {L:List α},Mn Q→GrK K k Q w lo e v L→e≠45→e≠50→GrK K k Q (w'.setCell ⟨g,R0.length*3+1,none⟩ (.slice A' (n+1) c')) lo e v L:=fun hQ hG h1 h2 =>
   hG.move hQ hsz ksame fun b hb=>same b (hG.lt b hb).2 (fun e=>typed_ne (w:=w) (hot b e.symm) (hG.typed hb) (Ne.symm h1) rfl) fun e=>cells_ne e5 (hG.typed hb) (Ne.symm h2) e.symm
  have mine:GrK K 4 TgP (w'.setCell ⟨g,R0.length*3+1,none⟩ (.slice A' (n+1) c')) lo 45 (.slice A' (n+1) c') (r.tos++[s]):=by
   refine a1.move TgP.mn (by simp[World.setCell]) (fun b hb hkb=>⟨hkb,Below.heap_setCell w' ⟨g,R0.length*3+1,none⟩ _ b fun e=>?_⟩) fun b hb=>Below.heap_setCell w' ⟨g,R0.length*3+1,none⟩ _ b fun e=>?_
   ·rw[show b=g from e,hKg] at hkb;cases hkb
   have e9:w'.heap[g]?=w.heap[g]?:=a2.block g e5.lt fun e=>hog g e.symm rfl
   exact typed_ne (w:=w') (a1.typed hb) ⟨_,e9.trans e5⟩ (by decide) e
  have sepm:Sep K X (.slice A' (n+1) c'):=fun b hb=>by
   rcases a3 with e|e
   ·rw[e] at hb
    exact g6.2.1.2 b hb
   rw[e] at hb
   injection hb with hb
   subst hb
   refine⟨?_,?_⟩
   ·cases hkb:K w.heap.size with
    | false=>rfl
    | true=>have:=(hkk _ hkb).2.1;omega
   cases hkb:X w.heap.size with
   | false=>rfl
   | true=>have:=hxx _ hkb;omega
  exact⟨⟨oth SrP.mn g6.1.1 (by decide) (by decide),g6.1.2⟩,⟨mine,sepm⟩,⟨oth WnP.mn g6.2.2.1 (by decide) (by decide),g6.2.2.2⟩⟩
 refine (FrT.grown a2 fun b hb=>?_).trans (FrT.grown (row:=some g) ⟨rfl,rfl,rfl,by simp[World.setCell],fun k _ hne=>Below.heap_setCell w' ⟨g,R0.length*3+1,none⟩ _ k fun e=>hne (by rw[e])⟩ fun b hb=>?_)
 ·obtain⟨cur,hc⟩:=hot b hb
  exact⟨(g6.2.1.1.lt b hb).1,(g6.2.1.2 b hb).2,cur,_,_,hc⟩
 injection hb with hb
 subst hb
 exact⟨e4,hXg,_,_,_,(a2.block g e5.lt fun e=>hog g e.symm rfl).trans e5⟩
theorem RulesX.addW{R0:List Ru}{r:Ru}(hr:RulesX K X w lo rv (R0++[r]))(hkk:∀b,K b=true→lo≤b∧b<w.heap.size∧X b=false)(hxx:∀b,X b=true→b<w.heap.size)(hlo:lo≤w.heap.size){g cg:Nat}(hg:rv=.slice (some ⟨g,0,none⟩) (R0.length+1) cg){A:Option Addr}{n c:Nat}(hv:w.cell? ⟨g,R0.length*3+2,none⟩=some (.slice A n c))
  {s:Wn} {cs:List Value} (hk:cs.length=2) (h1c:∀u∈cs,u.oneCell'=true) {ad:Addr} {c9:Nat} (hc:∀j u,cs[j]?=some u→w.cell? (ad.add j)=some u) (hs:WnP (keepW K w) w.heap.size cs s) (hl:n+1≤1000000) (ty:TypeId) :
  ∃A' c' w',(Builtin.append_ #[48,48] ty #[.slice A n c,.slice (some ad) 1 c9]).run Tryz.prog w=.ok (.slice A' (n+1) c') w'∧w.grownBy w' (Value.slice A n c).ownBlock∧(∀b,(Value.slice A n c).ownBlock=some b→b≠g∧lo≤b∧X b=false∧K b=false∧∃cur,w.heap[b]?=some (.cells cur 60 (0,0))) ∧
   RulesX K X (w'.setCell ⟨g,R0.length*3+2,none⟩ (.slice A' (n+1) c')) lo rv (R0++[⟨r.froms,r.tos,r.whens++[s]⟩])∧FrT X lo w (w'.setCell ⟨g,R0.length*3+2,none⟩ (.slice A' (n+1) c')):=by
 obtain⟨g',cg',cur,css,u1,u2,u3,e1,e2,e3,e4,e5,e6,e7,e8,e9,g2,g3,g4,g5,g6,g7⟩:=hr.last
 rw[hg] at e1
 injection e1 with e1 _ _
 injection e1 with e1
 injection e1 with e1 _ _
 subst e1
 have hme:u3=.slice A n c:=by
  have:=(e5.cell (R0.length*3+2)).symm.trans hv
  rw[e9] at this
  injection this
 subst hme
 have hn:r.whens.length=n:=g6.2.2.1.len
 obtain⟨A',c',w',hrun,a1,a2,a3⟩:=run_appendK ZWn WnP.mn ty g6.2.2.1 (fun b hb=>(g6.2.2.2 b hb).1) (c2:=c9) hk h1c hc hs (by omega) (by unfold maxLen;omega) hlo
 have hot:=fun b (hb:(Value.slice A n c).ownBlock=some b)=>g6.2.2.1.typed hb
 have hog:∀b,(Value.slice A n c).ownBlock=some b→b≠g:=fun b hb=>Ne.symm (cells_ne e5 (hot b hb) (by decide))
 have hgs:Sep K X rv:=g7
 have hrg:rv.ownBlock=some g:=by rw[hg];rfl
 obtain⟨hKg,hXg⟩:=hgs g hrg
 have same:∀b,b<w.heap.size→some b≠(Value.slice A n c).ownBlock→b≠g→(w'.setCell ⟨g,R0.length*3+2,none⟩ (.slice A' (n+1) c')).heap[b]?=w.heap[b]?:=fun b hb h1 h2=>(Below.heap_setCell w' ⟨g,R0.length*3+2,none⟩ _ b h2).trans (a2.block b hb h1)
 have hsz:w.heap.size≤(w'.setCell ⟨g,R0.length*3+2,none⟩ (.slice A' (n+1) c')).heap.size:=by have:=a2.size;simpa [World.setCell] using this
 have ksame:∀b,b<w.heap.size→K b=true→K b=true∧(w'.setCell ⟨g,R0.length*3+2,none⟩ (.slice A' (n+1) c')).heap[b]?=w.heap[b]?:=fun b hb hkb=>⟨hkb,same b hb (fun e=>by have:=(g6.2.2.2 b e.symm).1;rw[hkb] at this;cases this) (fun e=>by rw[e,hKg] at hkb;cases hkb)⟩
 refine⟨A',c',w',hrun,a2,fun b hb=>⟨hog b hb,(g6.2.2.1.lt b hb).1,(g6.2.2.2 b hb).2,(g6.2.2.2 b hb).1,hot b hb⟩,.inr ⟨R0,⟨r.froms,r.tos,r.whens++[s]⟩,css,u1,u2,(.slice A' (n+1) c'),rfl,g2,?_,g4,fun j hj hc'=>?_,?_,g7⟩,?_⟩
 ·have hw:w'.ownsRow lo 50 3 rv (R0.length+1) (css.flatten++[u1,u2,(.slice A n c)]):=ownsRow_move g3 fun b hb=>a2.block b (g3.lt b hb).2 fun e=>typed_ne (w:=w) (hot b e.symm) (ownsRow_typed g3 hb) (by decide) rfl
  have hf:css.flatten.length=R0.length*3:=by rw[flat3 css fun c hc=>(g4 c hc).1,g2]
  have:=ownsRow_set (u:=.slice A' (n+1) c') (i:=R0.length*3+2) hw hrg (by rw[List.length_append,hf];simp)
  rwa [(set_at hf).2.2] at this
 ·exact RuP.mn _ _ _ _ _ _ hsz (Sub.keep ksame) (g5 j hj hc')
 ·have oth:∀{α:Type} {k e:Nat} {Q:World→Nat→List Value→α→Prop} {v:Value} {L:List α},Mn Q→GrK K k Q w lo e v L→e≠60→e≠50→GrK K k Q (w'.setCell ⟨g,R0.length*3+2,none⟩ (.slice A' (n+1) c')) lo e v L:=fun hQ hG h1 h2 =>
   hG.move hQ hsz ksame fun b hb=>same b (hG.lt b hb).2 (fun e=>typed_ne (w:=w) (hot b e.symm) (hG.typed hb) (Ne.symm h1) rfl) fun e=>cells_ne e5 (hG.typed hb) (Ne.symm h2) e.symm
  have mine:GrK K 2 WnP (w'.setCell ⟨g,R0.length*3+2,none⟩ (.slice A' (n+1) c')) lo 60 (.slice A' (n+1) c') (r.whens++[s]):=by
   refine a1.move WnP.mn (by simp[World.setCell]) (fun b hb hkb=>⟨hkb,Below.heap_setCell w' ⟨g,R0.length*3+2,none⟩ _ b fun e=>?_⟩) fun b hb=>Below.heap_setCell w' ⟨g,R0.length*3+2,none⟩ _ b fun e=>?_
   ·rw[show b=g from e,hKg] at hkb;cases hkb
   have e9:w'.heap[g]?=w.heap[g]?:=a2.block g e5.lt fun e=>hog g e.symm rfl
   exact typed_ne (w:=w') (a1.typed hb) ⟨_,e9.trans e5⟩ (by decide) e
  have sepm:Sep K X (.slice A' (n+1) c'):=fun b hb=>by
   rcases a3 with e|e
   ·rw[e] at hb
    exact g6.2.2.2 b hb
   rw[e] at hb
   injection hb with hb
   subst hb
   refine⟨?_,?_⟩
   ·cases hkb:K w.heap.size with
    | false=>rfl
    | true=>have:=(hkk _ hkb).2.1;omega
   cases hkb:X w.heap.size with
   | false=>rfl
   | true=>have:=hxx _ hkb;omega
  exact⟨⟨oth SrP.mn g6.1.1 (by decide) (by decide),g6.1.2⟩,⟨oth TgP.mn g6.2.1.1 (by decide) (by decide),g6.2.1.2⟩,⟨mine,sepm⟩⟩
 refine (FrT.grown a2 fun b hb=>?_).trans (FrT.grown (row:=some g) ⟨rfl,rfl,rfl,by simp[World.setCell],fun k _ hne=>Below.heap_setCell w' ⟨g,R0.length*3+2,none⟩ _ k fun e=>hne (by rw[e])⟩ fun b hb=>?_)
 ·obtain⟨cur,hc⟩:=hot b hb
  exact⟨(g6.2.2.1.lt b hb).1,(g6.2.2.2 b hb).2,cur,_,_,hc⟩
 injection hb with hb
 subst hb
 exact⟨e4,hXg,_,_,_,(a2.block g e5.lt fun e=>hog g e.symm rfl).trans e5⟩
end
def X0:Nat→Bool:=fun _=>false
def poC(p:Po)(rv:Value):List Value:=[.int .u64 (p.id:Int),.string (strB p.ns),.int .u64 (p.service:Int),.int .i64 p.deny,rv]
structure Ty(K:Nat→Bool)(w:World)(lo:Nat)(l:List Po)(p:Po)(lv rv:Value):Prop where
 kk:∀b,K b=true→lo≤b∧b<w.heap.size
 row:∃css:List (List Value),css.length=l.length∧w.ownsRow lo 39 5 lv (l.length+1) (css.flatten++poC p rv)∧(∀c∈css,c.length=5∧∀u∈c,u.oneCell'=true)∧∀j (hj:j<l.length) (hc:j<css.length),PoP (keepW K w) w.heap.size css[j] l[j]
 sep:∀b,lv.ownBlock=some b→K b=false
 rules:RulesX K X0 w lo rv p.rules
section
variable {K K':Nat→Bool} {lo:Nat} {w w' w'':World} {l:List Po} {lv rv:Value} {p p':Po}
theorem Ty.kk3(h:Ty K w lo l p lv rv):∀b,K b=true→lo≤b∧b<w.heap.size∧X0 b=false:=fun b hb=>⟨(h.kk b hb).1,(h.kk b hb).2,rfl⟩
theorem poC_one{p:Po}{rv:Value}(h:rv.oneCell'=true):∀u∈poC p rv,u.oneCell'=true:=by
 intro u hu
 simp only[poC,List.mem_cons,List.mem_nil_iff,or_false] at hu
 rcases hu with rfl|rfl|rfl|rfl|rfl
 ·rfl
 ·rfl
 ·rfl
 ·rfl
 exact h
theorem RulesX.oneC{X:Nat→Bool}{R:List Ru}(h:RulesX K X w lo rv R):rv.oneCell'=true:=by
 obtain⟨A,n,c,q,_⟩:=h.rvv
 rw[q];rfl
theorem Ty.on(h:Ty K w lo l p lv rv)(hb:Below w.heap.size w w')(hK:∀b,b<w.heap.size→K' b=K b)(hK2:∀b,K' b=true→lo≤b∧b<w'.heap.size):Ty K' w' lo l p lv rv:=by
 have hkk:∀b,b<w.heap.size→K b=true→K' b=true∧w'.heap[b]?=w.heap[b]?:=fun b hl hk=>⟨by rw[hK b hl,hk],hb.block b hl⟩
 obtain⟨css,h1,h2,h3,h4⟩:=h.row
 refine⟨hK2,⟨css,h1,ownsRow_move h2 fun b hv=>hb.block b (h2.lt b hv).2,h3,fun j hj hc=>PoP.mn _ _ _ _ _ _ hb.size (Sub.keep hkk) (h4 j hj hc)⟩,fun b hv=>?_,h.rules.move ⟨hb.size,hK,fun _ _=>rfl,fun b hl _=>hb.block b hl,fun _ _=>rfl⟩⟩
 rw[hK b (h2.lt b hv).2]
 exact h.sep b hv
theorem Ty.below(h:Ty K w lo l p lv rv)(hb:Below w.heap.size w w'):Ty K w' lo l p lv rv :=
 h.on hb (fun _ _=>rfl) fun b hk=>⟨(h.kk b hk).1,Nat.lt_of_lt_of_le (h.kk b hk).2 hb.size⟩
theorem Ty.last(h:Ty K w lo l p lv rv):∃(g c:Nat)(cur:List Value),lv=.slice (some ⟨g,0,none⟩) (l.length+1) c∧l.length+1≤c∧c≤maxLen∧lo≤g∧Blk w g 39 cur∧l.length*5+5≤cur.length∧∀i,i<5→cur[l.length*5+i]?=(poC p rv)[i]?:=by
 obtain⟨css,h1,h2,h3,h4⟩:=h.row
 have hfl:css.flatten.length=l.length*5:=by
  have:∀(L:List (List Value)),(∀c∈L,c.length=5)→L.flatten.length=L.length*5:=by
   intro L hL
   induction L with
   | nil=>rfl
   | cons x L ih=>rw[List.flatten_cons,List.length_append,hL x (List.mem_cons_self),ih fun c hc=>hL c (List.mem_cons_of_mem _ hc),List.length_cons];omega
  rw[this css fun c hc=>(h3 c hc).1,h1]
 rcases h2.2 with ⟨e1,e2⟩|⟨g,cap,cur,e5,e6,e7,e8,e9,e10,e11⟩
 ·omega
 have hc:cur.toList.length=cap*5:=by rw[Array.length_toList,e10]
 refine⟨g,cap,cur.toList,e5,e8,e9,e6,by unfold Blk;rw[Array.toArray_toList];exact e7,by omega,fun i hi=>?_⟩
 have:(cur.toList.take ((l.length+1)*5))[l.length*5+i]?=(css.flatten++poC p rv)[l.length*5+i]?:=by rw[e11]
 rw[List.getElem?_take,if_pos (by omega),List.getElem?_append_right (by omega),hfl,show l.length*5+i-l.length*5=i from by omega] at this
 exact this
theorem Ty.po(h:Ty K w lo l p lv rv):PoP w w.heap.size (poC p rv) p:=⟨rv,rfl,h.rules.rvv⟩
theorem Ty.rd(h:Ty K w lo l p lv rv):∃A c,lv=.slice A (l.length+1) c∧RdG 5 PoP w w.heap.size A (l.length+1) (l++[p]):=by
 obtain⟨css,h1,h2,h3,h4⟩:=h.row
 rcases h2.2 with ⟨e1,e2⟩|⟨g,cap,cur,e5,e6,e7,e8,e9,e10,e11⟩
 ·omega
 refine⟨some ⟨g,0,none⟩,cap,e5,by simp,fun _=>⟨g,0,rfl,(Array.getElem?_eq_some_iff.1 e7).1,fun j hj=>?_⟩⟩
 have hb:Blk w g 39 cur.toList:=by unfold Blk;rw[Array.toArray_toList];exact e7
 have hk:∀cs∈css++[poC p rv],cs.length=5:=fun cs hcs=>by
  rcases List.mem_append.1 hcs with h|h
  ·exact (h3 cs h).1
  rw[List.mem_singleton.1 h];rfl
 have hjc:j<(css++[poC p rv]).length:=by rw[List.length_append] at hj ⊢;simp at hj ⊢;omega
 have hP:PoP w w.heap.size (css++[poC p rv])[j] (l++[p])[j]:=by
  by_cases hjl:j<l.length
  ·rw[List.getElem_append_left (by omega),List.getElem_append_left hjl]
   exact PoP.mn _ _ _ _ _ _ (Nat.le_refl _) (Sub.keepOut _ _ _) (h4 j hjl (by omega))
  have hj':j=l.length:=by simp at hj;omega
  subst hj'
  rw[List.getElem_append_right (by omega),List.getElem_append_right (by omega)]
  simp only[h1,Nat.sub_self,List.getElem_singleton]
  exact h.po
 refine⟨(css++[poC p rv])[j],hk _ (List.getElem_mem hjc),hP,fun i v hv=>?_⟩
 have hi:i<5:=by
  have:=(List.getElem?_eq_some_iff.1 hv).1
  rwa [hk _ (List.getElem_mem hjc)] at this
 rw[Nat.zero_add,hb.cell]
 have hf:(css++[poC p rv]).flatten=css.flatten++poC p rv:=by simp
 have hfa:=flat_at (css++[poC p rv]) hk j hjc i hi
 rw[hf,←e11,List.getElem?_take] at hfa
 rw[if_pos (by rw[List.length_append] at hj;simp at hj;omega)] at hfa
 rw[hfa]
 exact hv
theorem Ty.upd(h:Ty K w lo l p lv rv){R:List Ru}(hsz:w.heap.size≤w'.heap.size)(hK:∀b,b<w.heap.size→K b=true→w'.heap[b]?=w.heap[b]?)(hl:∀b,lv.ownBlock=some b→w'.heap[b]?=w.heap[b]?)(hr:RulesX K X0 w' lo rv R):Ty K w' lo l { p with rules:=R } lv rv:=by
 obtain⟨css,h1,h2,h3,h4⟩:=h.row
 exact⟨fun b hk=>⟨(h.kk b hk).1,Nat.lt_of_lt_of_le (h.kk b hk).2 hsz⟩,⟨css,h1,ownsRow_move h2 hl,h3,fun j hj hc=>PoP.mn _ _ _ _ _ _ hsz (Sub.keep fun b hb hk=>⟨hk,hK b hb hk⟩) (h4 j hj hc)⟩,h.sep,hr⟩
theorem Ty.typed(h:Ty K w lo l p lv rv){b:Nat}(hb:lv.ownBlock=some b):∃cur,w.heap[b]?=some (.cells cur 39 (0,0)):=by
 obtain⟨css,_,h2,_⟩:=h.row
 exact ownsRow_typed h2 hb
theorem Ty.lt(h:Ty K w lo l p lv rv){b:Nat}(hb:lv.ownBlock=some b):lo≤b∧b<w.heap.size:=by
 obtain⟨css,_,h2,_⟩:=h.row
 exact h2.lt b hb
theorem Ty.first{wx:World}(hlo:lo≤wx.heap.size){ad:Addr}{c9:Nat}(hp:p.rules=[])(hc:∀j u,(poC p (.slice none 0 0))[j]?=some u→wx.cell? (ad.add j)=some u)(ty:TypeId) :
  ∃A' c' w',(Builtin.append_ #[22,22] ty #[.slice none 0 0,.slice (some ad) 1 c9]).run Tryz.prog wx=.ok (.slice A' 1 c') w'∧wx.grownBy w' none∧Ty (fun _=>false) w' lo [] p (.slice A' 1 c') (.slice none 0 0):=by
 have hml:maxLen=9223372036854775807:=rfl
 obtain⟨A',c',w',hrun,g1,g2,_⟩:=run_append_raw (w:=wx) (base:=lo) ZPo ty (World.ownsRow_nil wx lo 39 5) (c2:=c9) (cs:=poC p (.slice none 0 0)) rfl (poC_one rfl) hc (by omega) (by omega) hlo
 rw[Nat.zero_add] at hrun g1
 refine⟨A',c',w',hrun,g2,⟨fun b hb=>(by cases hb),⟨[],rfl,by simpa using g1,by simp,fun j hj=>absurd hj (by simp)⟩,fun _ _=>rfl,.inl ⟨hp,rfl⟩⟩⟩
set_option maxRecDepth 100000 in
theorem Ty.pushP(h:Ty K w lo l p lv rv){A:Option Addr}{n c:Nat}(hlv:lv=.slice A n c){wx:World}(hx:Below w.heap.size w wx){ad:Addr}{c9:Nat}(hlo:lo≤w.heap.size)(hp:p'.rules=[])(hc:∀j u,(poC p' (.slice none 0 0))[j]?=some u→wx.cell? (ad.add j)=some u)(hl:n+1≤1000000)(ty:TypeId) :
  ∃A' c' w',(Builtin.append_ #[22,22] ty #[.slice A n c,.slice (some ad) 1 c9]).run Tryz.prog wx=.ok (.slice A' (n+1) c') w'∧wx.grownBy w' (Value.slice A n c).ownBlock∧∃K',Ty K' w' lo (l++[p]) p' (.slice A' (n+1) c') (.slice none 0 0):=by
 subst hlv
 obtain⟨css,h1,h2,h3,h4⟩:=h.row
 obtain⟨K',d,hrv⟩:=h.rules.done
 have hn:l.length+1=n:=by
  rcases h2.2 with ⟨g1,g2⟩|⟨g,cap,cur,g1,_⟩
  ·omega
  injection g1 with _ g1 _;exact g1.symm
 have hown:wx.ownsRow lo 39 5 (.slice A n c) n (css.flatten++poC p rv):=by
  rw[←hn]
  rw[hn] at h2 ⊢
  exact ownsRow_move h2 fun b hb=>hx.block b (h2.lt b hb).2
 obtain⟨A',c',w',hrun,g1,g2,g3⟩:=run_append_raw ZPo ty hown (c2:=c9) (cs:=poC p' (.slice none 0 0)) rfl (poC_one rfl) hc (by omega) (by unfold maxLen;omega) (Nat.le_trans hlo hx.size)
 have hKt:∀b,(Value.slice A n c).ownBlock=some b→K' b=false:=fun b hb=>by
  cases hk:K' b with
  | false=>rfl
  | true =>
   rcases d.in_ b hk with h5|⟨_,_,_,cur,e,h5,h6,_⟩
   ·rw[h.sep b hb] at h5;cases h5
   exact absurd rfl (typed_ne (w:=w) ⟨cur,h5⟩ (h.typed hb) h6)
 have hKlt:∀b,K' b=true→lo≤b∧b<w.heap.size:=fun b hk=>by
  rcases d.in_ b hk with h5|⟨h5,h6,_⟩
  ·exact h.kk b h5
  exact⟨h5,h6⟩
 have hsz:w.heap.size≤w'.heap.size:=Nat.le_trans hx.size g2.size
 have ksame:∀b,b<w.heap.size→K' b=true→K' b=true∧w'.heap[b]?=w.heap[b]?:=fun b hb hk=>⟨hk,(g2.block b (Nat.lt_of_lt_of_le hb hx.size) fun e=>by rw[hKt b e.symm] at hk;cases hk).trans (hx.block b hb)⟩
 refine⟨A',c',w',hrun,g2,K',⟨fun b hk=>⟨(hKlt b hk).1,Nat.lt_of_lt_of_le (hKlt b hk).2 hsz⟩,⟨css++[poC p rv],by simp[h1],?_,?_,?_⟩,?_,.inl ⟨hp,rfl⟩⟩⟩
 ·rw[flatten_one,List.length_append,show l.length+[p].length+1=n+1 from by simp;omega]
  exact g1
 ·intro cs hcs
  rcases List.mem_append.1 hcs with h5|h5
  ·exact h3 cs h5
  rw[List.mem_singleton.1 h5]
  exact⟨rfl,poC_one h.rules.oneC⟩
 ·intro j hj hc'
  by_cases hjl:j<l.length
  ·rw[List.getElem_append_left (by omega),List.getElem_append_left hjl]
   exact PoP.mn _ _ _ _ _ _ hsz (Sub.keep (K:=K) fun b hb hk=>ksame b hb (d.up b hk)) (h4 j hjl (by omega))
  have hj':j=l.length:=by simp at hj;omega
  subst hj'
  rw[List.getElem_append_right (by omega),List.getElem_append_right (by omega)]
  simp only[h1,Nat.sub_self,List.getElem_singleton]
  exact PoP.mn _ _ _ _ _ _ hsz (Sub.keep ksame) ⟨rv,rfl,hrv⟩
 intro b hb
 rcases g3 with e|e
 ·rw[e] at hb;exact hKt b hb
 rw[e] at hb
 injection hb with hb
 subst hb
 cases hk:K' wx.heap.size with
 | false=>rfl
 | true=>have:=(hKlt _ hk).2;have:=hx.size;omega
set_option maxRecDepth 100000 in
theorem Ty.pushR(h:Ty K w lo l p lv rv){A:Option Addr}{n c:Nat}(hrv:rv=.slice A n c){wx:World}(hx:Below w.heap.size w wx){ad:Addr}{c9:Nat}(hlo:lo≤w.heap.size){g:Nat}(hg:lv.ownBlock=some g)
  (hc:∀j u,[Value.slice none 0 0,.slice none 0 0,.slice none 0 0][j]?=some u→wx.cell? (ad.add j)=some u) (hl:n+1≤1000000) (ty:TypeId) :
  ∃A' c' w',(Builtin.append_ #[37,37] ty #[.slice A n c,.slice (some ad) 1 c9]).run Tryz.prog wx=.ok (.slice A' (n+1) c') w'∧wx.grownBy w' (Value.slice A n c).ownBlock∧(∀b,(Value.slice A n c).ownBlock=some b→b≠g∧lo≤b) ∧
   ∃K',Ty K' (w'.setCell ⟨g,l.length*5+4,none⟩ (.slice A' (n+1) c')) lo l { p with rules:=p.rules++[ru0] } lv (.slice A' (n+1) c'):=by
 subst hrv
 obtain⟨css,h1,h2,h3,h4⟩:=h.row
 obtain⟨K',css2,d,e1,e2,e3,e4,e5,hKlt⟩:=h.rules.settle h.kk3
 have hn:p.rules.length=n:=by
  rcases e2.2 with ⟨g1,g2⟩|⟨g,cap,cur,g1,_⟩
  ·injection g1 with _ g1 _;omega
  injection g1 with _ g1 _;omega
 have hown:wx.ownsRow lo 50 3 (.slice A n c) n css2.flatten:=by
  rw[←hn]
  have:=ownsRow_move (w':=wx) (hn▸e2) fun b hb=>hx.block b (e2.lt b hb).2
  rw[hn]
  exact this
 obtain⟨A',c',w',hrun,g1,g2,g3⟩:=run_append_raw ZRu ty hown (c2:=c9) rfl (one3 _ _ _ _ _ _ _ _ _) hc (by omega) (by unfold maxLen;omega) (Nat.le_trans hlo hx.size)
 have hot:∀b,(Value.slice A n c).ownBlock=some b→∃cur,w.heap[b]?=some (.cells cur 50 (0,0)):=fun b hb=>ownsRow_typed e2 hb
 have hbg:∀b,(Value.slice A n c).ownBlock=some b→b≠g:=fun b hb=>typed_ne (w:=w) (hot b hb) (h.typed hg) (by decide)
 have hKg:K' g=false:=by
  cases hk:K' g with
  | false=>rfl
  | true =>
   rcases d.in_ g hk with h5|⟨_,_,_,cur,e,h5,h6,_⟩
   ·rw[h.sep g hg] at h5;cases h5
   exact absurd rfl (typed_ne (w:=w) ⟨cur,h5⟩ (h.typed hg) h6)
 have hsz:w.heap.size≤w'.heap.size:=Nat.le_trans hx.size g2.size
 have hsz2:(w'.setCell ⟨g,l.length*5+4,none⟩ (.slice A' (n+1) c')).heap.size=w'.heap.size:=by simp[World.setCell]
 have same:∀b,b<w.heap.size→some b≠(Value.slice A n c).ownBlock→w'.heap[b]?=w.heap[b]?:=fun b hb hne=>(g2.block b (Nat.lt_of_lt_of_le hb hx.size) hne).trans (hx.block b hb)
 have same2:∀b,b<w.heap.size→some b≠(Value.slice A n c).ownBlock→b≠g→(w'.setCell ⟨g,l.length*5+4,none⟩ (.slice A' (n+1) c')).heap[b]?=w.heap[b]?:=fun b hb hne hb2=>(Below.heap_setCell w' ⟨g,l.length*5+4,none⟩ _ b hb2).trans (same b hb hne)
 have ksame:∀b,b<w.heap.size→K' b=true→K' b=true∧(w'.setCell ⟨g,l.length*5+4,none⟩ (.slice A' (n+1) c')).heap[b]?=w.heap[b]?:=fun b hb hk=>⟨hk,same2 b hb (fun e=>by rw[(e5 b e.symm).1] at hk;cases hk) fun e=>by rw[e,hKg] at hk;cases hk⟩
 have hfl:css.flatten.length=l.length*5:=by
  have:∀(L:List (List Value)),(∀c∈L,c.length=5)→L.flatten.length=L.length*5:=by
   intro L hL
   induction L with
   | nil=>rfl
   | cons x L ih=>rw[List.flatten_cons,List.length_append,hL x (List.mem_cons_self),ih fun c hc=>hL c (List.mem_cons_of_mem _ hc),List.length_cons];omega
  rw[this css fun c hc=>(h3 c hc).1,h1]
 refine⟨A',c',w',hrun,g2,fun b hb=>⟨hbg b hb,(e2.lt b hb).1⟩,K',⟨fun b hk=>⟨(hKlt b hk).1,by rw[hsz2];exact Nat.lt_of_lt_of_le (hKlt b hk).2.1 hsz⟩,⟨css,h1,?_,h3,fun j hj hc'=>PoP.mn _ _ _ _ _ _ (by rw[hsz2];exact hsz) (Sub.keep (K:=K) fun b hb hk=>ksame b hb (d.up b hk)) (h4 j hj hc')⟩,fun b hb=>?_,.inr ⟨p.rules,ru0,css2,.slice none 0 0,.slice none 0 0,.slice none 0 0,rfl,e1,?_,e3,fun j hj hc'=>?_,⟨⟨GrK.nil,sep_nil⟩,⟨GrK.nil,sep_nil⟩,⟨GrK.nil,sep_nil⟩⟩,?_⟩⟩⟩
 ·have hw:w'.ownsRow lo 39 5 lv (l.length+1) (css.flatten++poC p (.slice A n c)):=ownsRow_move h2 fun b hb=>same b (h2.lt b hb).2 fun e=>typed_ne (w:=w) (hot b e.symm) (h.typed hb) (by decide) rfl
  have:=ownsRow_set (u:=.slice A' (n+1) c') (i:=l.length*5+4) hw hg (by rw[List.length_append,hfl];simp[poC])
  have hset:(css.flatten++poC p (.slice A n c)).set (l.length*5+4) (.slice A' (n+1) c')=css.flatten++poC { p with rules:=p.rules++[ru0] } (.slice A' (n+1) c'):=by
   rw[List.set_append,if_neg (by omega),hfl,show l.length*5+4-l.length*5=4 from by omega]
   rfl
  rwa [hset] at this
 ·cases hk:K' b with
  | false=>rfl
  | true =>
   rw[hg] at hb
   injection hb with hb
   rw[←hb,hKg] at hk
   cases hk
 ·rw[hn]
  refine ownsRow_move g1 fun b hb=>Below.heap_setCell w' ⟨g,l.length*5+4,none⟩ _ b fun e=>?_
  have e9:w'.heap[g]?=w.heap[g]?:=same g (h.lt hg).2 fun e=>hbg g e.symm rfl
  obtain⟨cur,hcur⟩:=h.typed hg
  exact typed_ne (w:=w') (ownsRow_typed g1 hb) ⟨cur,e9.trans hcur⟩ (by decide) e
 ·exact RuP.mn _ _ _ _ _ _ (by rw[hsz2];exact hsz) (Sub.keep ksame) (e4 j hj hc')
 intro b hb
 rcases g3 with e|e
 ·rw[e] at hb
  exact e5 b hb
 rw[e] at hb
 injection hb with hb
 subst hb
 refine⟨?_,rfl⟩
 cases hk:K' wx.heap.size with
 | false=>rfl
 | true=>have:=(hKlt _ hk).2.1;have:=hx.size;omega
end
open Go.RowKit Go.Sort
theorem OwnR.rvkT{α:Type}{enc:α→List Value}{k:Nat}{K:Nat→Bool}{w:World}{base e:Nat}{A:Option Addr}{n c:Nat}{L:List α}(hk:∀x,(enc x).length=k)(h:OwnR enc k w base e (.slice A n c) L)(hK:∀b,(Value.slice A n c).ownBlock=some b→K b=true):RvR enc k (keepW K w) w.heap.size (.slice A n c) L:=by
 have hl:=h.len
 have hc:c≤maxLen:=by
  rcases h.2 with ⟨h1,h2⟩|⟨g,cap,cur,h1,h2,h3,h4,h5,h6,h7⟩
  ·injection h1 with _ _ h3;omega
  injection h1 with _ _ h3;omega
 refine⟨A,n,c,rfl,h.cap,hc,hl,fun hn=>?_⟩
 obtain⟨g,cur,hA,hg,hb,_,_,hcc⟩:=h.blk hk hn
 refine⟨g,0,hA,hb.lt,fun j hj i v hv=>?_⟩
 have hi:i<k:=by
  have:=(List.getElem?_eq_some_iff.1 hv).1
  rw[hk] at this
  exact this
 refine keepW_of (c:=cur.toArray) (t:=e) ?_ (hK g (by rw[hA];rfl)) hb
 rw[Nat.zero_add,hb.cell,hcc j hj i hi]
 exact hv
section
variable {K:Nat→Bool} {lo:Nat} {w w1:World} {l:List Po} {lv rv:Value} {p:Po}
theorem Ty.take4(h:Ty K w lo l p lv rv)(hlo:lo≤w.heap.size)(f:Below w.heap.size w w1){v1 v2 v3 v4:Value}(h1:∀b,v1.ownBlock=some b→w.heap.size≤b∧b<w1.heap.size)(h2:∀b,v2.ownBlock=some b→w.heap.size≤b∧b<w1.heap.size)(h3:∀b,v3.ownBlock=some b→w.heap.size≤b∧b<w1.heap.size)(h4:∀b,v4.ownBlock=some b→w.heap.size≤b∧b<w1.heap.size):Ty (K4 K v1 v2 v3 v4) w1 lo l p lv rv:=by
 refine h.on f (fun b hb=>?_) fun b hk=>?_
 ·cases hk:K b with
  | true=>exact K4.k hk
  | false =>
   cases hk4:K4 K v1 v2 v3 v4 b with
   | false=>rfl
   | true =>
    rcases K4.inv hk4 with e|e|e|e|e
    ·rw[hk] at e;cases e
    ·have:=(h1 b e).1;omega
    ·have:=(h2 b e).1;omega
    ·have:=(h3 b e).1;omega
    have:=(h4 b e).1;omega
 rcases K4.inv hk with e|e|e|e|e
 ·exact⟨(h.kk b e).1,Nat.lt_of_lt_of_le (h.kk b e).2 f.size⟩
 ·exact⟨by have:=(h1 b e).1;omega,(h1 b e).2⟩
 ·exact⟨by have:=(h2 b e).1;omega,(h2 b e).2⟩
 ·exact⟨by have:=(h3 b e).1;omega,(h3 b e).2⟩
 exact⟨by have:=(h4 b e).1;omega,(h4 b e).2⟩
end
section
variable {K:Nat→Bool} {lo:Nat} {w:World} {l:List Po} {lv rv:Value} {p:Po}
theorem Ty.addF(h:Ty K w lo l p lv rv)(hlo:lo≤w.heap.size){R0:List Ru}{r:Ru}(hp:p.rules=R0++[r]){g cg:Nat}(hg:rv=.slice (some ⟨g,0,none⟩) (R0.length+1) cg){A:Option Addr}{n c:Nat}(hv:w.cell? ⟨g,R0.length*3,none⟩=some (.slice A n c))
  {cs:List Value} (hk:cs.length=3) (h1c:∀u∈cs,u.oneCell'=true) {ad:Addr} {c9:Nat} (hc:∀j u,cs[j]?=some u→w.cell? (ad.add j)=some u) (hl:n+1≤1000000) (ty:TypeId) :
  ∃A' c' w',(Builtin.append_ #[47,47] ty #[.slice A n c,.slice (some ad) 1 c9]).run Tryz.prog w=.ok (.slice A' (n+1) c') w'∧w.grownBy w' (Value.slice A n c).ownBlock∧(∀b,(Value.slice A n c).ownBlock=some b→b≠g∧lo≤b∧∃cur,w.heap[b]?=some (.cells cur 56 (0,0))) ∧
   ∀s:Sr,SrP (keepW K w) w.heap.size cs s→Ty K (w'.setCell ⟨g,R0.length*3,none⟩ (.slice A' (n+1) c')) lo l { p with rules:=R0++[⟨r.froms++[s],r.tos,r.whens⟩] } lv rv:=by
 have hr:=h.rules
 rw[hp] at hr
 obtain⟨g',cg',cur,css,u1,u2,u3,e1,e2,e3,e4,e5,e6,e7,e8,e9,g2,g3,g4,g5,g6,g7⟩:=hr.last
 rw[hg] at e1
 injection e1 with e1 _ _
 injection e1 with e1
 injection e1 with e1 _ _
 subst e1
 have hme:u1=.slice A n c:=by
  have:=(e5.cell (R0.length*3)).symm.trans hv
  rw[e7] at this
  injection this
 subst hme
 have hn:=g6.1.1.len
 obtain⟨css1,q1,q2,q3,q4⟩:=g6.1.1
 obtain⟨A',c',w',hrun,a1,a2,a3⟩:=run_append_raw ZSr ty (hn▸q2) (c2:=c9) hk h1c hc (by omega) (by unfold maxLen;omega) hlo
 have hot:=fun b (hb:(Value.slice A n c).ownBlock=some b)=>ownsRow_typed q2 hb
 have hog:∀b,(Value.slice A n c).ownBlock=some b→b≠g:=fun b hb=>Ne.symm (cells_ne e5 (hot b hb) (by decide))
 refine⟨A',c',w',hrun,a2,fun b hb=>⟨hog b hb,(q2.lt b hb).1,hot b hb⟩,fun s hs=>?_⟩
 obtain⟨A2,c2,w2,hrun2,b1,b2,b3,b4⟩:=RulesX.addF hr h.kk3 (fun b hb=>by cases hb) hlo hg hv (c9:=c9) hk h1c hc hs hl ty
 rw[hrun] at hrun2
 injection hrun2 with hr1 hr2
 injection hr1 with hr3 _ hr4
 subst hr2 hr3 hr4
 have hrg:rv.ownBlock=some g:=by rw[hg];rfl
 have hsame:∀b,b<w.heap.size→some b≠(Value.slice A n c).ownBlock→b≠g→(w'.setCell ⟨g,R0.length*3,none⟩ (.slice A' (n+1) c')).heap[b]?=w.heap[b]?:=fun b hb h1 h2=>(Below.heap_setCell w' ⟨g,R0.length*3,none⟩ _ b h2).trans (a2.block b hb h1)
 refine h.upd (by have:=a2.size;simpa [World.setCell] using this) (fun b hb hkb=>hsame b hb (fun e=>?_) fun e=>?_) (fun b hb=>hsame b (h.lt hb).2 (fun e=>?_) fun e=>?_) b3
 ·have:=(b2 b e.symm).2.2.2.1
  rw[hkb] at this;cases this
 ·rw[e,(g7 g hrg).1] at hkb;cases hkb
 ·exact typed_ne (w:=w) (hot b e.symm) (h.typed hb) (by decide) rfl
 exact cells_ne e5 (h.typed hb) (by decide) e.symm
theorem Ty.addT(h:Ty K w lo l p lv rv)(hlo:lo≤w.heap.size){R0:List Ru}{r:Ru}(hp:p.rules=R0++[r]){g cg:Nat}(hg:rv=.slice (some ⟨g,0,none⟩) (R0.length+1) cg){A:Option Addr}{n c:Nat}(hv:w.cell? ⟨g,R0.length*3+1,none⟩=some (.slice A n c))
  {cs:List Value} (hk:cs.length=4) (h1c:∀u∈cs,u.oneCell'=true) {ad:Addr} {c9:Nat} (hc:∀j u,cs[j]?=some u→w.cell? (ad.add j)=some u) (hl:n+1≤1000000) (ty:TypeId) :
  ∃A' c' w',(Builtin.append_ #[46,46] ty #[.slice A n c,.slice (some ad) 1 c9]).run Tryz.prog w=.ok (.slice A' (n+1) c') w'∧w.grownBy w' (Value.slice A n c).ownBlock∧(∀b,(Value.slice A n c).ownBlock=some b→b≠g∧lo≤b∧∃cur,w.heap[b]?=some (.cells cur 45 (0,0))) ∧
   ∀s:Tg,TgP (keepW K w) w.heap.size cs s→Ty K (w'.setCell ⟨g,R0.length*3+1,none⟩ (.slice A' (n+1) c')) lo l { p with rules:=R0++[⟨r.froms,r.tos++[s],r.whens⟩] } lv rv:=by
 have hr:=h.rules
 rw[hp] at hr
 obtain⟨g',cg',cur,css,u1,u2,u3,e1,e2,e3,e4,e5,e6,e7,e8,e9,g2,g3,g4,g5,g6,g7⟩:=hr.last
 rw[hg] at e1
 injection e1 with e1 _ _
 injection e1 with e1
 injection e1 with e1 _ _
 subst e1
 have hme:u2=.slice A n c:=by
  have:=(e5.cell (R0.length*3+1)).symm.trans hv
  rw[e8] at this
  injection this
 subst hme
 have hn:=g6.2.1.1.len
 obtain⟨css1,q1,q2,q3,q4⟩:=g6.2.1.1
 obtain⟨A',c',w',hrun,a1,a2,a3⟩:=run_append_raw ZTg ty (hn▸q2) (c2:=c9) hk h1c hc (by omega) (by unfold maxLen;omega) hlo
 have hot:=fun b (hb:(Value.slice A n c).ownBlock=some b)=>ownsRow_typed q2 hb
 have hog:∀b,(Value.slice A n c).ownBlock=some b→b≠g:=fun b hb=>Ne.symm (cells_ne e5 (hot b hb) (by decide))
 refine⟨A',c',w',hrun,a2,fun b hb=>⟨hog b hb,(q2.lt b hb).1,hot b hb⟩,fun s hs=>?_⟩
 obtain⟨A2,c2,w2,hrun2,b1,b2,b3,b4⟩:=RulesX.addT hr h.kk3 (fun b hb=>by cases hb) hlo hg hv (c9:=c9) hk h1c hc hs hl ty
 rw[hrun] at hrun2
 injection hrun2 with hr1 hr2
 injection hr1 with hr3 _ hr4
 subst hr2 hr3 hr4
 have hrg:rv.ownBlock=some g:=by rw[hg];rfl
 have hsame:∀b,b<w.heap.size→some b≠(Value.slice A n c).ownBlock→b≠g→(w'.setCell ⟨g,R0.length*3+1,none⟩ (.slice A' (n+1) c')).heap[b]?=w.heap[b]?:=fun b hb h1 h2=>(Below.heap_setCell w' ⟨g,R0.length*3+1,none⟩ _ b h2).trans (a2.block b hb h1)
 refine h.upd (by have:=a2.size;simpa [World.setCell] using this) (fun b hb hkb=>hsame b hb (fun e=>?_) fun e=>?_) (fun b hb=>hsame b (h.lt hb).2 (fun e=>?_) fun e=>?_) b3
 ·have:=(b2 b e.symm).2.2.2.1
  rw[hkb] at this;cases this
 ·rw[e,(g7 g hrg).1] at hkb;cases hkb
 ·exact typed_ne (w:=w) (hot b e.symm) (h.typed hb) (by decide) rfl
 exact cells_ne e5 (h.typed hb) (by decide) e.symm
theorem Ty.addW(h:Ty K w lo l p lv rv)(hlo:lo≤w.heap.size){R0:List Ru}{r:Ru}(hp:p.rules=R0++[r]){g cg:Nat}(hg:rv=.slice (some ⟨g,0,none⟩) (R0.length+1) cg){A:Option Addr}{n c:Nat}(hv:w.cell? ⟨g,R0.length*3+2,none⟩=some (.slice A n c))
  {cs:List Value} (hk:cs.length=2) (h1c:∀u∈cs,u.oneCell'=true) {ad:Addr} {c9:Nat} (hc:∀j u,cs[j]?=some u→w.cell? (ad.add j)=some u) (hl:n+1≤1000000) (ty:TypeId) :
  ∃A' c' w',(Builtin.append_ #[48,48] ty #[.slice A n c,.slice (some ad) 1 c9]).run Tryz.prog w=.ok (.slice A' (n+1) c') w'∧w.grownBy w' (Value.slice A n c).ownBlock∧(∀b,(Value.slice A n c).ownBlock=some b→b≠g∧lo≤b∧∃cur,w.heap[b]?=some (.cells cur 60 (0,0))) ∧
   ∀s:Wn,WnP (keepW K w) w.heap.size cs s→Ty K (w'.setCell ⟨g,R0.length*3+2,none⟩ (.slice A' (n+1) c')) lo l { p with rules:=R0++[⟨r.froms,r.tos,r.whens++[s]⟩] } lv rv:=by
 have hr:=h.rules
 rw[hp] at hr
 obtain⟨g',cg',cur,css,u1,u2,u3,e1,e2,e3,e4,e5,e6,e7,e8,e9,g2,g3,g4,g5,g6,g7⟩:=hr.last
 rw[hg] at e1
 injection e1 with e1 _ _
 injection e1 with e1
 injection e1 with e1 _ _
 subst e1
 have hme:u3=.slice A n c:=by
  have:=(e5.cell (R0.length*3+2)).symm.trans hv
  rw[e9] at this
  injection this
 subst hme
 have hn:=g6.2.2.1.len
 obtain⟨css1,q1,q2,q3,q4⟩:=g6.2.2.1
 obtain⟨A',c',w',hrun,a1,a2,a3⟩:=run_append_raw ZWn ty (hn▸q2) (c2:=c9) hk h1c hc (by omega) (by unfold maxLen;omega) hlo
 have hot:=fun b (hb:(Value.slice A n c).ownBlock=some b)=>ownsRow_typed q2 hb
 have hog:∀b,(Value.slice A n c).ownBlock=some b→b≠g:=fun b hb=>Ne.symm (cells_ne e5 (hot b hb) (by decide))
 refine⟨A',c',w',hrun,a2,fun b hb=>⟨hog b hb,(q2.lt b hb).1,hot b hb⟩,fun s hs=>?_⟩
 obtain⟨A2,c2,w2,hrun2,b1,b2,b3,b4⟩:=RulesX.addW hr h.kk3 (fun b hb=>by cases hb) hlo hg hv (c9:=c9) hk h1c hc hs hl ty
 rw[hrun] at hrun2
 injection hrun2 with hr1 hr2
 injection hr1 with hr3 _ hr4
 subst hr2 hr3 hr4
 have hrg:rv.ownBlock=some g:=by rw[hg];rfl
 have hsame:∀b,b<w.heap.size→some b≠(Value.slice A n c).ownBlock→b≠g→(w'.setCell ⟨g,R0.length*3+2,none⟩ (.slice A' (n+1) c')).heap[b]?=w.heap[b]?:=fun b hb h1 h2=>(Below.heap_setCell w' ⟨g,R0.length*3+2,none⟩ _ b h2).trans (a2.block b hb h1)
 refine h.upd (by have:=a2.size;simpa [World.setCell] using this) (fun b hb hkb=>hsame b hb (fun e=>?_) fun e=>?_) (fun b hb=>hsame b (h.lt hb).2 (fun e=>?_) fun e=>?_) b3
 ·have:=(b2 b e.symm).2.2.2.1
  rw[hkb] at this;cases this
 ·rw[e,(g7 g hrg).1] at hkb;cases hkb
 ·exact typed_ne (w:=w) (hot b e.symm) (h.typed hb) (by decide) rfl
 exact cells_ne e5 (h.typed hb) (by decide) e.symm
end
def RPartP(lo:Nat)(l:List Po)(p:Po)(R0:List Ru)(r:Ru)(lv rv:Value)(ws:List (List UInt8))(w:World)(e:Ending)(w':World):Prop :=
 Below lo w w'∧e=.returned (.bool (partO ws r).isSome)∧(∀r',partO ws r=some r'→∃K',Ty K' w' lo l { p with rules:=R0++[r'] } lv rv)∧∀(b:Nat)(cur:Array Value),w.heap[b]?=some (Obj.cells cur 39 (0,0))→w'.heap[b]?=w.heap[b]?
theorem partW_from(tl:List (List UInt8))(r:Ru):partO (wFrom::tl) r=match fromW tl with
  | none=>none
  | some s=>if r.tos.length+r.whens.length=0 then some ⟨r.froms++[s],r.tos,r.whens⟩ else none:=by
 unfold partO
 simp only
 rw[if_pos trivial,from_eq]
 try (cases fromW tl<;>rfl)
theorem partW_to(tl:List (List UInt8))(r:Ru):partO (wTo::tl) r=match toW tl with
  | none=>none
  | some s=>if r.whens.length=0 then some ⟨r.froms,r.tos++[s],r.whens⟩ else none:=by
 unfold partO
 simp only
 rw[if_neg (by decide),if_pos trivial,to_eq]
 try (cases toW tl<;>rfl)
theorem partW_when(tl:List (List UInt8))(r:Ru):partO (wWhen::tl) r=match whenW tl with
  | none=>none
  | some s=>some ⟨r.froms,r.tos,r.whens++[s]⟩:=by
 unfold partO
 simp only
 rw[if_neg (by decide),if_neg (by decide),if_pos trivial,when_eq]
 try (cases whenW tl<;>rfl)
section
variable {K:Nat→Bool} {lo:Nat} {w wx:World} {l:List Po} {lv rv:Value} {p:Po}
theorem OwnR.ltb{α:Type}{enc:α→List Value}{k:Nat}{w:World}{base e:Nat}{v:Value}{L:List α}(h:OwnR enc k w base e v L):∀b,v.ownBlock=some b→base≤b∧b<w.heap.size :=
 fun b hb=>(show w.ownsRow base e k v L.length (flatR enc L) from h).lt b hb
theorem Ty.takeF(hT:Ty K w lo l p lv rv)(hlo:lo≤w.heap.size)(fx:Below w.heap.size w wx){A1 A2 A3:Option Addr}{n1 c1 n2 c2 n3 c3:Nat}{o:Option Sr}(h:∀s,o=some s→OwnR tmC 2 wx w.heap.size 42 (.slice A1 n1 c1) s.names∧OwnR tmC 2 wx w.heap.size 42 (.slice A2 n2 c2) s.spaces∧OwnR ntC 2 wx w.heap.size 85 (.slice A3 n3 c3) s.nets) :
  ∃K',Ty K' wx lo l p lv rv∧∀s,o=some s→SrP (keepW K' wx) wx.heap.size [.slice A1 n1 c1,.slice A2 n2 c2,.slice A3 n3 c3] s:=by
 rcases o with _|s
 ·exact⟨K,hT.below fx,fun s hs=>by cases hs⟩
 obtain⟨o1,o2,o3⟩:=h s rfl
 refine⟨K4 K (.slice A1 n1 c1) (.slice A2 n2 c2) (.slice A3 n3 c3) (.slice A3 n3 c3),hT.take4 hlo fx o1.ltb o2.ltb o3.ltb o3.ltb,fun s' e=>?_⟩
 injection e with e
 subst e
 exact⟨_,_,_,rfl,o1.rvkT (fun _=>rfl) (fun b hb=>K4.v1 hb),o2.rvkT (fun _=>rfl) (fun b hb=>K4.v2 hb),o3.rvkT (fun _=>rfl) (fun b hb=>K4.v3 hb)⟩
theorem Ty.takeT(hT:Ty K w lo l p lv rv)(hlo:lo≤w.heap.size)(fx:Below w.heap.size w wx){A1 A2 A3 A4:Option Addr}{n1 c1 n2 c2 n3 c3 n4 c4:Nat}{o:Option Tg}(h:∀s,o=some s→OwnR inC 1 wx w.heap.size 3 (.slice A1 n1 c1) s.ports∧OwnR tmC 2 wx w.heap.size 42 (.slice A2 n2 c2) s.methods∧OwnR tmC 2 wx w.heap.size 42 (.slice A3 n3 c3) s.paths∧OwnR tmC 2 wx w.heap.size 42 (.slice A4 n4 c4) s.hosts) :
  ∃K',Ty K' wx lo l p lv rv∧∀s,o=some s→TgP (keepW K' wx) wx.heap.size [.slice A1 n1 c1,.slice A2 n2 c2,.slice A3 n3 c3,.slice A4 n4 c4] s:=by
 rcases o with _|s
 ·exact⟨K,hT.below fx,fun s hs=>by cases hs⟩
 obtain⟨o1,o2,o3,o4⟩:=h s rfl
 refine⟨K4 K (.slice A1 n1 c1) (.slice A2 n2 c2) (.slice A3 n3 c3) (.slice A4 n4 c4),hT.take4 hlo fx o1.ltb o2.ltb o3.ltb o4.ltb,fun s' e=>?_⟩
 injection e with e
 subst e
 exact⟨_,_,_,_,rfl,o1.rvkT (fun _=>rfl) (fun b hb=>K4.v1 hb),o2.rvkT (fun _=>rfl) (fun b hb=>K4.v2 hb),o3.rvkT (fun _=>rfl) (fun b hb=>K4.v3 hb),o4.rvkT (fun _=>rfl) (fun b hb=>K4.v4 hb)⟩
theorem Ty.takeW(hT:Ty K w lo l p lv rv)(hlo:lo≤w.heap.size)(fx:Below w.heap.size w wx){A1:Option Addr}{n1 c1:Nat}{hd:List UInt8}{o:Option (List Tm)}(h:∀s,o=some s→OwnR tmC 2 wx w.heap.size 42 (.slice A1 n1 c1) s) :
  ∃K',Ty K' wx lo l p lv rv∧∀s,o=some s→WnP (keepW K' wx) wx.heap.size [.string (strB hd),.slice A1 n1 c1] ⟨hd,s⟩:=by
 rcases o with _|s
 ·exact⟨K,hT.below fx,fun s hs=>by cases hs⟩
 have o1:=h s rfl
 refine⟨K4 K (.slice A1 n1 c1) (.slice A1 n1 c1) (.slice A1 n1 c1) (.slice A1 n1 c1),hT.take4 hlo fx o1.ltb o1.ltb o1.ltb o1.ltb,fun s' e=>?_⟩
 injection e with e
 subst e
 exact⟨_,rfl,o1.rvkT (fun _=>rfl) (fun b hb=>K4.v1 hb)⟩
theorem Ty.cells(h:Ty K w lo l p lv rv){R0:List Ru}{r:Ru}(hp:p.rules=R0++[r]){g cg:Nat}(hg:rv=.slice (some ⟨g,0,none⟩) (R0.length+1) cg) :
  ∃(cur:List Value)(A1:Option Addr)(c1:Nat)(A2:Option Addr)(c2:Nat)(A3:Option Addr)(c3:Nat),Blk w g 50 cur∧lo≤g∧g<w.heap.size∧cur[R0.length*3]?=some (.slice A1 r.froms.length c1)∧cur[R0.length*3+1]?=some (.slice A2 r.tos.length c2)∧cur[R0.length*3+2]?=some (.slice A3 r.whens.length c3)∧(∀b,(Value.slice A1 r.froms.length c1).ownBlock=some b→b<w.heap.size)∧(∀b,(Value.slice A2 r.tos.length c2).ownBlock=some b→b<w.heap.size)∧(∀b,(Value.slice A3 r.whens.length c3).ownBlock=some b→b<w.heap.size):=by
 have hr:=h.rules
 rw[hp] at hr
 obtain⟨g',cg',cur,css,u1,u2,u3,e1,e2,e3,e4,e5,e6,e7,e8,e9,g2,g3,g4,g5,g6,g7⟩:=hr.last
 rw[hg] at e1
 injection e1 with e1 _ _
 injection e1 with e1
 injection e1 with e1 _ _
 subst e1
 obtain⟨A1,c1,rfl,_⟩:=g6.1.1.form
 obtain⟨A2,c2,rfl,_⟩:=g6.2.1.1.form
 obtain⟨A3,c3,rfl,_⟩:=g6.2.2.1.form
 exact⟨cur,A1,c1,A2,c2,A3,c3,e5,e4,e5.lt,e7,e8,e9,fun b hb=>(g6.1.1.lt b hb).2,fun b hb=>(g6.2.1.1.lt b hb).2,fun b hb=>(g6.2.2.1.lt b hb).2⟩
end
set_option maxRecDepth 100000 in
set_option maxHeartbeats 16000000 in
theorem rPart_from(K:Nat→Bool)(lo:Nat)(l:List Po)(p:Po)(R0:List Ru)(r:Ru)(lv rv:Value)(A:Option Addr)(nw cw:Nat)(tl:List (List UInt8))(g cg:Nat)(w:World)(hT:Ty K w lo l p lv rv)(hlo:lo≤w.heap.size)(hp:p.rules=R0++[r])(hg:rv=.slice (some ⟨g,0,none⟩) (R0.length+1) cg)
  (hR0:R0.length<900000) (hf:r.froms.length<900000) (ht:r.tos.length<900000) (hw:r.whens.length<900000) (h:RdR sC 1 w w.heap.size A nw (wFrom::tl)) (hn:nw≤1000001) (hsh:∀x∈tl,x.length≤1000000) :
  Calls Tryz.prog 31 #[.pointer (some ⟨g,R0.length*3,none⟩),.slice A nw cw] w fun e w'=>RPartP lo l p R0 r lv rv (wFrom::tl) w e w':=by
 have hsrc:=rSource_any A nw cw tl w h hn hsh
 have hpo:=partW_from tl r
 obtain⟨b,off,hA,hm⟩:=h.ad
 subst hA
 obtain⟨hb,e0⟩:=h.one
 have d5:(0:Int)<(nw:Int):=by omega
 have hq1:((strB wFrom).toList==[102,114,111,109])=true:=by rw[strB_toList];decide
 have hq2:((strB wFrom).toList==[116,111])=false:=by rw[strB_toList];decide
 obtain⟨cur,A1,c1,A2,c2,A3,c3,kb,hlg,hgl,gc1,gc2,gc3,lt1,lt2,lt3⟩:=hT.cells hp hg
 obtain⟨n,hnn⟩:∃n,R0.length=n:=⟨_,rfl⟩
 obtain⟨fl,hfl⟩:∃n,r.froms.length=n:=⟨_,rfl⟩
 obtain⟨tl0,htl⟩:∃n,r.tos.length=n:=⟨_,rfl⟩
 obtain⟨wl,hwl⟩:∃n,r.whens.length=n:=⟨_,rfl⟩
 rw[hnn] at gc1 gc2 gc3 hR0 ⊢
 rw[hfl] at gc1 hf lt1
 rw[htl] at gc2 ht lt2
 rw[hwl] at gc3 hw lt3
 rw[htl,hwl] at hpo
 obtain⟨ok,hok0⟩:∃x,(fromW tl).isSome=x:=⟨_,rfl⟩
 have HOK:=Lib.hid hok0
 have HPO:=Lib.hid hpo;have HT:=Lib.hid hT;have HP:=Lib.hid hp;have HG:=Lib.hid hg;have HNN:=Lib.hid hnn;have KB:=Lib.hid kb;have HLO:=Lib.hid hlo;have GC1:=Lib.hid gc1;have GC2:=Lib.hid gc2;have GC3:=Lib.hid gc3;have LT:=Lib.hid lt1
 unfold SrcP at hsrc
 rw[hok0] at hsrc
 clear lt1 lt2 lt3 h hsh hok0 hpo hT hp hg hnn hfl htl hwl kb gc1 gc2 gc3 hm hlo
 go_enter Tryz.func31,Tryz.ntmps31
 go_wp2_with fail
 refine hsrc.mono ?_
 rintro e w1 ⟨f1,B1,n1,d1,B2,n2,d2,B3,n3,d3,rfl,hok⟩
 clear hsrc
 obtain⟨bx,hbx⟩:∃x,w1.heap.size=x:=⟨_,rfl⟩
 go_wp2_with fail
 first|rw[hbx]|skip
 refine abs (fun u=>Below w.heap.size w u∧Blk u bx 56 [.slice B1 n1 d1,.slice B2 n2 d2,.slice B3 n3 d3]∧w.heap.size≤bx∧∀s,fromW tl=some s→OwnR tmC 2 u w.heap.size 42 (.slice B1 n1 d1) s.names∧OwnR tmC 2 u w.heap.size 42 (.slice B2 n2 d2) s.spaces∧OwnR ntC 2 u w.heap.size 85 (.slice B3 n3 d3) s.nets) ⟨f1.alloc f1.size _,Blk.newAt hbx 56 #[.slice B1 n1 d1,.slice B2 n2 d2,.slice B3 n3 d3],by rw[←hbx];exact f1.size,fun s hs=>⟨(hok s hs).1.below (Nat.le_refl _) ((Below.refl _ w1).alloc (Nat.le_refl _) _),(hok s hs).2.1.below (Nat.le_refl _) ((Below.refl _ w1).alloc (Nat.le_refl _) _),(hok s hs).2.2.below (Nat.le_refl _) ((Below.refl _ w1).alloc (Nat.le_refl _) _)⟩⟩ ?_
 rintro u ⟨fu,kx,hwx,hrow⟩
 clear f1 hok hbx
 obtain⟨wx,hwe⟩:∃x,(u.alloc (.cells #[.slice B1 n1 d1,.slice B2 n2 d2,.slice B3 n3 d3] 56)).drew=x:=⟨_,rfl⟩
 have hx:Below u.heap.size u wx:=by rw[←hwe];exact ((Below.refl _ u).alloc (Nat.le_refl _) _).drew
 have fx:Below w.heap.size w wx:=fu.trans (hx.mono fu.size)
 have hcell:∀j v,[.slice B1 n1 d1,.slice B2 n2 d2,.slice B3 n3 d3][j]?=some v→wx.cell? ((⟨u.heap.size,0,none⟩:Addr).add j)=some v:=by
  rw[←hwe]
  exact fun j v hv=>new_cells u [.slice B1 n1 d1,.slice B2 n2 d2,.slice B3 n3 d3] 56 j v hv
 obtain⟨K',hT',hs'⟩:=HT.out.takeF (o:=fromW tl) HLO.out fx fun s hs=>⟨(hrow s hs).1.below (Nat.le_refl _) hx,(hrow s hs).2.1.below (Nat.le_refl _) hx,(hrow s hs).2.2.below (Nat.le_refl _) hx⟩
 have kbx:Blk wx g 50 cur:=(fx.block g hgl).trans KB.out
 have kxx:Blk wx bx 56 [.slice B1 n1 d1,.slice B2 n2 d2,.slice B3 n3 d3]:=(hx.block bx kx.lt).trans kx
 have hv0:wx.cell? ⟨g,R0.length*3,none⟩=some (.slice A1 fl c1):=by rw[HNN.out];exact (kbx.cell _).trans GC1.out
 obtain⟨A',c',w',hrun,hgr,hown,hfin⟩:=hT'.addF (Nat.le_trans HLO.out fx.size) HP.out HG.out hv0 (cs:=[.slice B1 n1 d1,.slice B2 n2 d2,.slice B3 n3 d3]) rfl (by
  intro v hv
  simp only[List.mem_cons,List.mem_nil_iff,or_false] at hv
  rcases hv with rfl|rfl|rfl<;>rfl) (ad:=⟨u.heap.size,0,none⟩) (c9:=1) hcell (by omega) 47
 rw[HNN.out] at hfin
 have hge:g≠bx:=kbx.neT kxx (by decide)
 have hgW:Blk w' g 50 cur:=kbx.grownNe hgr fun b hb=>(hown b hb).1
 have hxW:Blk w' bx 56 [.slice B1 n1 d1,.slice B2 n2 d2,.slice B3 n3 d3]:=kxx.grownNe hgr fun b hb=>by have:=LT.out b hb;omega
 have kub:Blk u g 50 cur:=(fu.block g hgl).trans KB.out
 have S0:PaC3 g (n*3) (.slice A1 fl c1) bx (.slice B1 n1 d1) (.slice B2 n2 d2) (.slice B3 n3 d3) u:=⟨(kub.cell _).trans GC1.out,kx.cell 0,kx.cell 1,kx.cell 2⟩
 have S1:PaC3 g (n*3) (.slice A1 fl c1) bx (.slice B1 n1 d1) (.slice B2 n2 d2) (.slice B3 n3 d3) wx:=⟨(kbx.cell _).trans GC1.out,kxx.cell 0,kxx.cell 1,kxx.cell 2⟩
 have S2:PaC3 g (n*3) (.slice A1 fl c1) bx (.slice B1 n1 d1) (.slice B2 n2 d2) (.slice B3 n3 d3) w':=⟨(hgW.cell _).trans GC1.out,hxW.cell 0,hxW.cell 1,hxW.cell 2⟩
 have xg:=(hgW.cell (n*3)).trans GC1.out
 have xf:=hgW.frozen (n*3)
 have k9:=hgW.set (n*3) (.slice A' (fl+1) c')
 have hlx:Below lo w (w'.setCell ⟨g,n*3,none⟩ (.slice A' (fl+1) c')):=(((fx.mono HLO.out).grown hgr (Nat.le_trans HLO.out fx.size) fun b hb=>(hown b hb).2.1).setCell (p:=⟨g,n*3,none⟩) hlg _)
 have hkeep:∀(b:Nat)(cur:Array Value),w.heap[b]?=some (Obj.cells cur 39 (0,0))→(w'.setCell ⟨g,n*3,none⟩ (.slice A' (fl+1) c')).heap[b]?=w.heap[b]?:=by
  intro b cur9 hb9
  have hbl:b<w.heap.size:=(Array.getElem?_eq_some_iff.1 hb9).1
  have e1:=fx.block b hbl
  have hbx9:=e1.trans hb9
  refine (Below.heap_setCell w' ⟨g,n*3,none⟩ _ b (typed_ne (w:=wx) ⟨_,hbx9⟩ ⟨_,kbx⟩ (by decide))).trans ((hgr.block b (Nat.lt_of_lt_of_le hbl fx.size) fun e=>?_).trans e1)
  exact typed_ne (w:=wx) ⟨_,hbx9⟩ (hown b e.symm).2.2 (by decide) rfl
 have t2:(w'.setCell ⟨g,n*3,none⟩ (.slice A' (fl+1) c')).cell? ⟨g,n*3+1,none⟩=some (.slice A2 tl0 c2):=(k9.cell (n*3+1)).trans (by rw[List.getElem?_set_ne (by omega)];exact GC2.out)
 have t3:(w'.setCell ⟨g,n*3,none⟩ (.slice A' (fl+1) c')).cell? ⟨g,n*3+2,none⟩=some (.slice A3 wl c3):=(k9.cell (n*3+2)).trans (by rw[List.getElem?_set_ne (by omega)];exact GC3.out)
 obtain⟨wS,hwS⟩:∃x,w'.setCell ⟨g,n*3,none⟩ (.slice A' (fl+1) c')=x:=⟨_,rfl⟩
 have hfin2:∀x,x=(partO (wFrom::tl) r).isSome→RPartP lo l p R0 r lv rv (wFrom::tl) w (.returned (.bool x)) wS:=by
  rw[←hwS]
  refine fun x hx9=>⟨hlx,by rw[hx9],fun r' hr'=>?_,hkeep⟩
  rw[HPO.out] at hr'
  rcases hs9:fromW tl with _|s
  ·rw[hs9] at hr'
   cases hr'
  rw[hs9] at hr'
  simp only at hr'
  split at hr'
  ·injection hr' with hr'
   subst hr'
   exact⟨K',hfin s (hs' s hs9)⟩
  cases hr'
 rw[hwS] at t2 t3
 have HFIN:=Lib.hid hfin2
 have HWS:=Lib.hid hwS
 subst hwe
 have HRUN:=Lib.hid hrun
 clear hrun
 replace hrun:=HRUN.out
 clear hkeep hfin hfin2 hs' hT' hlx hwS k9 kub hown hgr hgW hxW kbx kxx hcell hrow fu fx kx hv0 hge hx
 refine wp_region_order (PaC3 g (n*3) (.slice A1 fl c1) bx (.slice B1 n1 d1) (.slice B2 n2 d2) (.slice B3 n3 d3)) 10 [(0,0),(1,0),(2,0),(3,0),(4,0),(5,0),(6,1),(7,1),(8,1),(9,0),(10,2)] (by kernel_rfl) (by kernel_rfl) ?_
 simp only[pick,List.filterMap_cons,List.filterMap_nil,List.getElem?_cons_zero,List.getElem?_cons_succ,Option.map_some]
 have hS:PaC3 g (n*3) (.slice A1 fl c1) bx (.slice B1 n1 d1) (.slice B2 n2 d2) (.slice B3 n3 d3) u.drew:=S0
 obtain⟨e0,e1,e2,e3⟩:=id S0
 iterate 6 (refine wpF_take (v:=?_) S0 rfl ?_ (fun _ _ _ h=>h) ?_;rotate_left;(· intro w' hS';obtain⟨e0,e1,e2,e3⟩:=hS';go_simp<;>rfl);go_simp)
 refine wpF_only rfl (fun K hK=>?_)
 go_wp2_with fail
 first|refine⟨S1,?_⟩|skip
 refine wpF_only rfl (fun K hK=>?_)
 refine wp_append_run rfl rfl rfl hrun ?_
 clear hrun
 go_wp2_with fail
 first|refine⟨fun _=>S2,?_⟩|refine⟨S2,?_⟩|skip
 first|(refine wpF_only rfl (fun K hK=>?_);go_wp2_with fail;first|refine⟨fun _=>S2,?_⟩|refine⟨S2,?_⟩|skip)|skip
 clear hS S1 S0
 (refine wpF_take (v:=?_) S2 rfl ?_ (fun _ _ _ h=>h) ?_;rotate_left;(· intro w' hS';obtain⟨e0,e1,e2,e3⟩:=hS';go_simp<;>rfl);go_simp)
 refine wpF_only rfl (fun K hK=>?_)
 go_wp2_with fail
 first|refine⟨fun h=>absurd h (by decide),wpF_nil ?_⟩|skip
 clear S2
 rw[HWS.out]
 clear xg xf
 rcases ok with _|_
 ·have HRES:=Lib.hid (show false=(partO (wFrom::tl) r).isSome by rw[HPO.out];have hk:=HOK.out;cases hq:fromW tl with|none=>rfl|some s=>rw[hq] at hk;cases hk)
  go_wp2_with fail
  go_ret
  exact HFIN.out _ HRES.out
 rcases Nat.eq_zero_or_pos tl0 with h0|h0
 ·have dt:((tl0:Int)==0)=true:=by rw[h0];rfl
  rcases Nat.eq_zero_or_pos wl with h1|h1
  ·have dw:((wl:Int)==0)=true:=by rw[h1];rfl
   have H01:=Lib.hid (show tl0+wl=0 by omega)
   clear h0 h1
   have HRES:=Lib.hid (show true=(partO (wFrom::tl) r).isSome by rw[HPO.out];obtain⟨s,hq⟩:=Option.isSome_iff_exists.1 HOK.out;rw[hq];simp only;rw[if_pos H01.out];rfl)
   go_wp2_with fail
   go_ret
   exact HFIN.out _ HRES.out
  have dw:((wl:Int)==0)=false:=by rw[beq_eq_false_iff_ne];omega
  have H01:=Lib.hid (show ¬tl0+wl=0 by omega)
  clear h0 h1
  have HRES:=Lib.hid (show false=(partO (wFrom::tl) r).isSome by rw[HPO.out];obtain⟨s,hq⟩:=Option.isSome_iff_exists.1 HOK.out;rw[hq];simp only;rw[if_neg H01.out];rfl)
  go_wp2_with fail
  go_ret
  exact HFIN.out _ HRES.out
 have dt:((tl0:Int)==0)=false:=by rw[beq_eq_false_iff_ne];omega
 have H01:=Lib.hid (show ¬tl0+wl=0 by omega)
 clear h0
 have HRES:=Lib.hid (show false=(partO (wFrom::tl) r).isSome by rw[HPO.out];obtain⟨s,hq⟩:=Option.isSome_iff_exists.1 HOK.out;rw[hq];simp only;rw[if_neg H01.out];rfl)
 go_wp2_with fail
 go_ret
 exact HFIN.out _ HRES.out
set_option maxRecDepth 100000 in
set_option maxHeartbeats 16000000 in
theorem rPart_to(K:Nat→Bool)(lo:Nat)(l:List Po)(p:Po)(R0:List Ru)(r:Ru)(lv rv:Value)(A:Option Addr)(nw cw:Nat)(tl:List (List UInt8))(g cg:Nat)(w:World)(hT:Ty K w lo l p lv rv)(hlo:lo≤w.heap.size)(hp:p.rules=R0++[r])(hg:rv=.slice (some ⟨g,0,none⟩) (R0.length+1) cg)
  (hR0:R0.length<900000) (hf:r.froms.length<900000) (ht:r.tos.length<900000) (hw:r.whens.length<900000) (h:RdR sC 1 w w.heap.size A nw (wTo::tl)) (hn:nw≤1000001) (hsh:∀x∈tl,x.length≤1000000) :
  Calls Tryz.prog 31 #[.pointer (some ⟨g,R0.length*3,none⟩),.slice A nw cw] w fun e w'=>RPartP lo l p R0 r lv rv (wTo::tl) w e w':=by
 have hsrc:=rTarget_any A nw cw tl w h hn hsh
 have hpo:=partW_to tl r
 obtain⟨b,off,hA,hm⟩:=h.ad
 subst hA
 obtain⟨hb,e0⟩:=h.one
 have d5:(0:Int)<(nw:Int):=by omega
 have hq1:((strB wTo).toList==[102,114,111,109])=false:=by rw[strB_toList];decide
 have hq2:((strB wTo).toList==[116,111])=true:=by rw[strB_toList];decide
 obtain⟨cur,A1,c1,A2,c2,A3,c3,kb,hlg,hgl,gc1,gc2,gc3,lt1,lt2,lt3⟩:=hT.cells hp hg
 obtain⟨n,hnn⟩:∃n,R0.length=n:=⟨_,rfl⟩
 obtain⟨fl,hfl⟩:∃n,r.froms.length=n:=⟨_,rfl⟩
 obtain⟨tl0,htl⟩:∃n,r.tos.length=n:=⟨_,rfl⟩
 obtain⟨wl,hwl⟩:∃n,r.whens.length=n:=⟨_,rfl⟩
 rw[hnn] at gc1 gc2 gc3 hR0 ⊢
 rw[hfl] at gc1 hf lt1
 rw[htl] at gc2 ht lt2
 rw[hwl] at gc3 hw lt3
 rw[hwl] at hpo
 obtain⟨ok,hok0⟩:∃x,(toW tl).isSome=x:=⟨_,rfl⟩
 have HOK:=Lib.hid hok0
 have HPO:=Lib.hid hpo;have HT:=Lib.hid hT;have HP:=Lib.hid hp;have HG:=Lib.hid hg;have HNN:=Lib.hid hnn;have KB:=Lib.hid kb;have HLO:=Lib.hid hlo;have GC1:=Lib.hid gc1;have GC2:=Lib.hid gc2;have GC3:=Lib.hid gc3;have LT:=Lib.hid lt2
 unfold TgtP at hsrc
 rw[hok0] at hsrc
 clear lt1 lt2 lt3 h hsh hok0 hpo hT hp hg hnn hfl htl hwl kb gc1 gc2 gc3 hm hlo
 go_enter Tryz.func31,Tryz.ntmps31
 go_wp2_with fail
 refine hsrc.mono ?_
 rintro e w1 ⟨f1,B1,n1,d1,B2,n2,d2,B3,n3,d3,B4,n4,d4,rfl,hok⟩
 clear hsrc
 obtain⟨bx,hbx⟩:∃x,w1.heap.size=x:=⟨_,rfl⟩
 go_wp2_with fail
 first|rw[hbx]|skip
 refine abs (fun u=>Below w.heap.size w u∧Blk u bx 45 [.slice B1 n1 d1,.slice B2 n2 d2,.slice B3 n3 d3,.slice B4 n4 d4]∧w.heap.size≤bx∧∀s,toW tl=some s→OwnR inC 1 u w.heap.size 3 (.slice B1 n1 d1) s.ports∧OwnR tmC 2 u w.heap.size 42 (.slice B2 n2 d2) s.methods∧OwnR tmC 2 u w.heap.size 42 (.slice B3 n3 d3) s.paths∧OwnR tmC 2 u w.heap.size 42 (.slice B4 n4 d4) s.hosts) ⟨f1.alloc f1.size _,Blk.newAt hbx 45 #[.slice B1 n1 d1,.slice B2 n2 d2,.slice B3 n3 d3,.slice B4 n4 d4],by rw[←hbx];exact f1.size,fun s hs=>⟨(hok s hs).1.below (Nat.le_refl _) ((Below.refl _ w1).alloc (Nat.le_refl _) _),(hok s hs).2.1.below (Nat.le_refl _) ((Below.refl _ w1).alloc (Nat.le_refl _) _),(hok s hs).2.2.1.below (Nat.le_refl _) ((Below.refl _ w1).alloc (Nat.le_refl _) _),(hok s hs).2.2.2.below (Nat.le_refl _) ((Below.refl _ w1).alloc (Nat.le_refl _) _)⟩⟩ ?_
 rintro u ⟨fu,kx,hwx,hrow⟩
 clear f1 hok hbx
 obtain⟨wx,hwe⟩:∃x,(u.alloc (.cells #[.slice B1 n1 d1,.slice B2 n2 d2,.slice B3 n3 d3,.slice B4 n4 d4] 45)).drew=x:=⟨_,rfl⟩
 have hx:Below u.heap.size u wx:=by rw[←hwe];exact ((Below.refl _ u).alloc (Nat.le_refl _) _).drew
 have fx:Below w.heap.size w wx:=fu.trans (hx.mono fu.size)
 have hcell:∀j v,[.slice B1 n1 d1,.slice B2 n2 d2,.slice B3 n3 d3,.slice B4 n4 d4][j]?=some v→wx.cell? ((⟨u.heap.size,0,none⟩:Addr).add j)=some v:=by
  rw[←hwe]
  exact fun j v hv=>new_cells u [.slice B1 n1 d1,.slice B2 n2 d2,.slice B3 n3 d3,.slice B4 n4 d4] 45 j v hv
 obtain⟨K',hT',hs'⟩:=HT.out.takeT (o:=toW tl) HLO.out fx fun s hs=>⟨(hrow s hs).1.below (Nat.le_refl _) hx,(hrow s hs).2.1.below (Nat.le_refl _) hx,(hrow s hs).2.2.1.below (Nat.le_refl _) hx,(hrow s hs).2.2.2.below (Nat.le_refl _) hx⟩
 have kbx:Blk wx g 50 cur:=(fx.block g hgl).trans KB.out
 have kxx:Blk wx bx 45 [.slice B1 n1 d1,.slice B2 n2 d2,.slice B3 n3 d3,.slice B4 n4 d4]:=(hx.block bx kx.lt).trans kx
 have hv0:wx.cell? ⟨g,R0.length*3+1,none⟩=some (.slice A2 tl0 c2):=by rw[HNN.out];exact (kbx.cell _).trans GC2.out
 obtain⟨A',c',w',hrun,hgr,hown,hfin⟩:=hT'.addT (Nat.le_trans HLO.out fx.size) HP.out HG.out hv0 (cs:=[.slice B1 n1 d1,.slice B2 n2 d2,.slice B3 n3 d3,.slice B4 n4 d4]) rfl (by
  intro v hv
  simp only[List.mem_cons,List.mem_nil_iff,or_false] at hv
  rcases hv with rfl|rfl|rfl|rfl<;>rfl) (ad:=⟨u.heap.size,0,none⟩) (c9:=1) hcell (by omega) 46
 rw[HNN.out] at hfin
 have hge:g≠bx:=kbx.neT kxx (by decide)
 have hgW:Blk w' g 50 cur:=kbx.grownNe hgr fun b hb=>(hown b hb).1
 have hxW:Blk w' bx 45 [.slice B1 n1 d1,.slice B2 n2 d2,.slice B3 n3 d3,.slice B4 n4 d4]:=kxx.grownNe hgr fun b hb=>by have:=LT.out b hb;omega
 have kub:Blk u g 50 cur:=(fu.block g hgl).trans KB.out
 have S0:PaC4 g (n*3+1) (.slice A2 tl0 c2) bx (.slice B1 n1 d1) (.slice B2 n2 d2) (.slice B3 n3 d3) (.slice B4 n4 d4) u:=⟨(kub.cell _).trans GC2.out,kx.cell 0,kx.cell 1,kx.cell 2,kx.cell 3⟩
 have S1:PaC4 g (n*3+1) (.slice A2 tl0 c2) bx (.slice B1 n1 d1) (.slice B2 n2 d2) (.slice B3 n3 d3) (.slice B4 n4 d4) wx:=⟨(kbx.cell _).trans GC2.out,kxx.cell 0,kxx.cell 1,kxx.cell 2,kxx.cell 3⟩
 have S2:PaC4 g (n*3+1) (.slice A2 tl0 c2) bx (.slice B1 n1 d1) (.slice B2 n2 d2) (.slice B3 n3 d3) (.slice B4 n4 d4) w':=⟨(hgW.cell _).trans GC2.out,hxW.cell 0,hxW.cell 1,hxW.cell 2,hxW.cell 3⟩
 have xg:=(hgW.cell (n*3+1)).trans GC2.out
 have xf:=hgW.frozen (n*3+1)
 have k9:=hgW.set (n*3+1) (.slice A' (tl0+1) c')
 have hlx:Below lo w (w'.setCell ⟨g,n*3+1,none⟩ (.slice A' (tl0+1) c')):=(((fx.mono HLO.out).grown hgr (Nat.le_trans HLO.out fx.size) fun b hb=>(hown b hb).2.1).setCell (p:=⟨g,n*3+1,none⟩) hlg _)
 have hkeep:∀(b:Nat)(cur:Array Value),w.heap[b]?=some (Obj.cells cur 39 (0,0))→(w'.setCell ⟨g,n*3+1,none⟩ (.slice A' (tl0+1) c')).heap[b]?=w.heap[b]?:=by
  intro b cur9 hb9
  have hbl:b<w.heap.size:=(Array.getElem?_eq_some_iff.1 hb9).1
  have e1:=fx.block b hbl
  have hbx9:=e1.trans hb9
  refine (Below.heap_setCell w' ⟨g,n*3+1,none⟩ _ b (typed_ne (w:=wx) ⟨_,hbx9⟩ ⟨_,kbx⟩ (by decide))).trans ((hgr.block b (Nat.lt_of_lt_of_le hbl fx.size) fun e=>?_).trans e1)
  exact typed_ne (w:=wx) ⟨_,hbx9⟩ (hown b e.symm).2.2 (by decide) rfl
 have t3:(w'.setCell ⟨g,n*3+1,none⟩ (.slice A' (tl0+1) c')).cell? ⟨g,n*3+2,none⟩=some (.slice A3 wl c3):=(k9.cell (n*3+2)).trans (by rw[List.getElem?_set_ne (by omega)];exact GC3.out)
 obtain⟨wS,hwS⟩:∃x,w'.setCell ⟨g,n*3+1,none⟩ (.slice A' (tl0+1) c')=x:=⟨_,rfl⟩
 have hfin2:∀x,x=(partO (wTo::tl) r).isSome→RPartP lo l p R0 r lv rv (wTo::tl) w (.returned (.bool x)) wS:=by
  rw[←hwS]
  refine fun x hx9=>⟨hlx,by rw[hx9],fun r' hr'=>?_,hkeep⟩
  rw[HPO.out] at hr'
  rcases hs9:toW tl with _|s
  ·rw[hs9] at hr'
   cases hr'
  rw[hs9] at hr'
  simp only at hr'
  split at hr'
  ·injection hr' with hr'
   subst hr'
   exact⟨K',hfin s (hs' s hs9)⟩
  cases hr'
 rw[hwS] at t3
 have HFIN:=Lib.hid hfin2
 have HWS:=Lib.hid hwS
 subst hwe
 have HRUN:=Lib.hid hrun
 clear hrun
 replace hrun:=HRUN.out
 clear hkeep hfin hfin2 hs' hT' hlx hwS k9 kub hown hgr hgW hxW kbx kxx hcell hrow fu fx kx hv0 hge hx
 refine wp_region_order (PaC4 g (n*3+1) (.slice A2 tl0 c2) bx (.slice B1 n1 d1) (.slice B2 n2 d2) (.slice B3 n3 d3) (.slice B4 n4 d4)) 10 [(0,0),(1,0),(2,0),(3,0),(4,0),(5,0),(6,1),(7,1),(8,1),(9,0),(10,2)] (by kernel_rfl) (by kernel_rfl) ?_
 simp only[pick,List.filterMap_cons,List.filterMap_nil,List.getElem?_cons_zero,List.getElem?_cons_succ,Option.map_some]
 have hS:PaC4 g (n*3+1) (.slice A2 tl0 c2) bx (.slice B1 n1 d1) (.slice B2 n2 d2) (.slice B3 n3 d3) (.slice B4 n4 d4) u.drew:=S0
 obtain⟨e0,e1,e2,e3,e4⟩:=id S0
 iterate 6 (refine wpF_take (v:=?_) S0 rfl ?_ (fun _ _ _ h=>h) ?_;rotate_left;(· intro w' hS';obtain⟨e0,e1,e2,e3,e4⟩:=hS';go_simp<;>rfl);go_simp)
 refine wpF_only rfl (fun K hK=>?_)
 go_wp2_with fail
 first|refine⟨S1,?_⟩|skip
 refine wpF_only rfl (fun K hK=>?_)
 refine wp_append_run rfl rfl rfl hrun ?_
 clear hrun
 go_wp2_with fail
 first|refine⟨fun _=>S2,?_⟩|refine⟨S2,?_⟩|skip
 first|(refine wpF_only rfl (fun K hK=>?_);go_wp2_with fail;first|refine⟨fun _=>S2,?_⟩|refine⟨S2,?_⟩|skip)|skip
 clear hS S1 S0
 (refine wpF_take (v:=?_) S2 rfl ?_ (fun _ _ _ h=>h) ?_;rotate_left;(· intro w' hS';obtain⟨e0,e1,e2,e3,e4⟩:=hS';go_simp<;>rfl);go_simp)
 refine wpF_only rfl (fun K hK=>?_)
 go_wp2_with fail
 first|refine⟨fun h=>absurd h (by decide),wpF_nil ?_⟩|skip
 clear S2
 rw[HWS.out]
 clear xg xf
 rcases ok with _|_
 ·have HRES:=Lib.hid (show false=(partO (wTo::tl) r).isSome by rw[HPO.out];have hk:=HOK.out;cases hq:toW tl with|none=>rfl|some s=>rw[hq] at hk;cases hk)
  go_wp2_with fail
  go_ret
  exact HFIN.out _ HRES.out
 rcases Nat.eq_zero_or_pos wl with h1|h1
 ·have dw:((wl:Int)==0)=true:=by rw[h1];rfl
  have H01:=Lib.hid h1
  clear h1
  have HRES:=Lib.hid (show true=(partO (wTo::tl) r).isSome by rw[HPO.out];obtain⟨s,hq⟩:=Option.isSome_iff_exists.1 HOK.out;rw[hq];simp only;rw[if_pos H01.out];rfl)
  go_wp2_with fail
  go_ret
  exact HFIN.out _ HRES.out
 have dw:((wl:Int)==0)=false:=by rw[beq_eq_false_iff_ne];omega
 have H01:=Lib.hid (show ¬wl=0 by omega)
 clear h1
 have HRES:=Lib.hid (show false=(partO (wTo::tl) r).isSome by rw[HPO.out];obtain⟨s,hq⟩:=Option.isSome_iff_exists.1 HOK.out;rw[hq];simp only;rw[if_neg H01.out];rfl)
 go_wp2_with fail
 go_ret
 exact HFIN.out _ HRES.out
def PaW(g o:Nat)(v:Value)(b o1:Nat)(s:Value)(u:World):Prop:=u.cell? ⟨g,o,none⟩=some v∧u.cell? ⟨b,o1,none⟩=some s
theorem TermsP.one{o:Option (List Tm)}{w:World}{e:Ending}{w':World}(h:TermsP o w e w'):Below w.heap.size w w'∧∃B1 n1 d1,e=.returned (.tuple #[.slice B1 n1 d1,.bool o.isSome])∧∀s,o=some s→OwnR tmC 2 w' w.heap.size 42 (.slice B1 n1 d1) s:=by
 refine⟨h.1,?_⟩
 rcases o with _|L
 ·exact⟨none,0,0,h.2,fun s hs=>by cases hs⟩
 obtain⟨A,c,e1,e2⟩:=h.2
 exact⟨A,L.length,c,e1,fun s hs=>by injection hs with hs;subst hs;exact e2⟩
set_option maxRecDepth 100000 in
set_option maxHeartbeats 16000000 in
theorem rPart_when0(K:Nat→Bool)(lo:Nat)(l:List Po)(p:Po)(R0:List Ru)(r:Ru)(lv rv:Value)(A:Option Addr)(nw cw:Nat)(tl:List (List UInt8))(g cg:Nat)(w:World)(hT:Ty K w lo l p lv rv)(hlo:lo≤w.heap.size)(hp:p.rules=R0++[r])(hg:rv=.slice (some ⟨g,0,none⟩) (R0.length+1) cg)
  (hR0:R0.length<900000) (hf:r.froms.length<900000) (ht:r.tos.length<900000) (hw:r.whens.length<900000) (h:RdR sC 1 w w.heap.size A nw (wWhen::tl)) (hn:nw≤1000001) (hsh:∀x∈tl,x.length≤1000000) (hz:whenW tl=none) (h0:tl.length≠2∨tl.head?=some []) :
  Calls Tryz.prog 31 #[.pointer (some ⟨g,R0.length*3,none⟩),.slice A nw cw] w fun e w'=>RPartP lo l p R0 r lv rv (wWhen::tl) w e w':=by
 have hpo:=partW_when tl r
 rw[hz] at hpo
 simp only at hpo
 have hfin:RPartP lo l p R0 r lv rv (wWhen::tl) w (.returned (.bool false)) w:=⟨Below.refl _ _,by rw[hpo];rfl,fun r' hr'=>(by rw[hpo] at hr';cases hr'),fun _ _ _=>rfl⟩
 have HFIN:=Lib.hid hfin
 obtain⟨b,off,hA,hm⟩:=h.ad
 subst hA
 obtain⟨hb,e0⟩:=h.one
 have hS1:=h.cut
 have d5:(0:Int)<(nw:Int):=by omega
 have hq1:((strB wWhen).toList==[102,114,111,109])=false:=by rw[strB_toList];decide
 have hq2:((strB wWhen).toList==[116,111])=false:=by rw[strB_toList];decide
 have hq3:((strB wWhen).toList==[119,104,101,110])=true:=by rw[strB_toList];decide
 clear hz hfin hpo h hT hlo hp hg hR0 hf ht hw hsh
 by_cases h3:tl.length=2
 ·have h1:tl.head?=some []:=h0.resolve_left (fun q=>q h3)
  obtain⟨tl2,rfl⟩:∃x,tl=[]::x:=by
   cases tl with
   | nil=>cases h1
   | cons a x=>injection h1 with h1;subst h1;exact⟨x,rfl⟩
  obtain⟨_,e1⟩:=hS1.one
  obtain rfl:nw=3:=by simp at hm h3;omega
  clear d5
  have hq4:(strB []).toList.isEmpty=true:=by rw[strB_toList];rfl
  clear h0 h1 h3 hm hS1
  go_enter Tryz.func31,Tryz.ntmps31
  go_wp2_with fail
  go_ret
  exact HFIN.out
 have d1:((nw:Int)==3)=false:=by rw[beq_eq_false_iff_ne];omega
 have d1n:¬(nw:Int)=3:=by omega
 clear h0 h3 hm hS1
 go_enter Tryz.func31,Tryz.ntmps31
 go_wp2_with fail
 go_ret
 exact HFIN.out
set_option maxRecDepth 100000 in
set_option maxHeartbeats 16000000 in
theorem rPart_no(x:List UInt8)(K:Nat→Bool)(lo:Nat)(l:List Po)(p:Po)(R0:List Ru)(r:Ru)(lv rv:Value)(A:Option Addr)(nw cw:Nat)(tl:List (List UInt8))(g cg:Nat)(w:World)(hT:Ty K w lo l p lv rv)(hlo:lo≤w.heap.size)(hp:p.rules=R0++[r])(hg:rv=.slice (some ⟨g,0,none⟩) (R0.length+1) cg)
  (hR0:R0.length<900000) (hf:r.froms.length<900000) (ht:r.tos.length<900000) (hw:r.whens.length<900000) (h:RdR sC 1 w w.heap.size A nw (x::tl)) (hn:nw≤1000001) (hsh:∀x∈tl,x.length≤1000000) (x1:x≠wFrom) (x2:x≠wTo) (x3:x≠wWhen) :
  Calls Tryz.prog 31 #[.pointer (some ⟨g,R0.length*3,none⟩),.slice A nw cw] w fun e w'=>RPartP lo l p R0 r lv rv (x::tl) w e w':=by
 have hpo:partO (x::tl) r=none:=by
  unfold partO
  simp only
  rw[if_neg x1,if_neg x2,if_neg x3]
 have hfin:RPartP lo l p R0 r lv rv (x::tl) w (.returned (.bool false)) w:=⟨Below.refl _ _,by rw[hpo];rfl,fun r' hr'=>(by rw[hpo] at hr';cases hr'),fun _ _ _=>rfl⟩
 have HFIN:=Lib.hid hfin
 obtain⟨b,off,hA,hm⟩:=h.ad
 subst hA
 obtain⟨hb,e0⟩:=h.one
 have d5:(0:Int)<(nw:Int):=by omega
 have hp1:(x==[102,114,111,109])=false:=beq_eq_false_iff_ne.2 x1
 have hp2:(x==[116,111])=false:=beq_eq_false_iff_ne.2 x2
 have hp3:(x==[119,104,101,110])=false:=beq_eq_false_iff_ne.2 x3
 have hq1:((strB x).toList==[102,114,111,109])=false:=by rw[strB_toList];exact beq_eq_false_iff_ne.2 x1
 have hq2:((strB x).toList==[116,111])=false:=by rw[strB_toList];exact beq_eq_false_iff_ne.2 x2
 have hq3:((strB x).toList==[119,104,101,110])=false:=by rw[strB_toList];exact beq_eq_false_iff_ne.2 x3
 clear hfin hpo h hT hlo hp hg hR0 hf ht hw hsh hm
 go_enter Tryz.func31,Tryz.ntmps31
 go_wp2_with fail
 go_ret
 exact HFIN.out
set_option maxRecDepth 100000 in
set_option maxHeartbeats 16000000 in
theorem rPart_when1(K:Nat→Bool)(lo:Nat)(l:List Po)(p:Po)(R0:List Ru)(r:Ru)(lv rv:Value)(A:Option Addr)(nw cw:Nat)(hd v:List UInt8)(g cg:Nat)(w:World)(hT:Ty K w lo l p lv rv)(hlo:lo≤w.heap.size)(hp:p.rules=R0++[r])(hg:rv=.slice (some ⟨g,0,none⟩) (R0.length+1) cg)
  (hR0:R0.length<900000) (hf:r.froms.length<900000) (ht:r.tos.length<900000) (hw:r.whens.length<900000) (h:RdR sC 1 w w.heap.size A nw (wWhen::[hd,v])) (hn:nw≤1000001) (hv:v.length≤1000000) (hhd:hd≠[]) (hty:∀b,(Value.slice A nw cw).ownBlock=some b→∃cur,w.heap[b]?=some (.cells cur 9 (0,0))) :
  Calls Tryz.prog 31 #[.pointer (some ⟨g,R0.length*3,none⟩),.slice A nw cw] w fun e w'=>RPartP lo l p R0 r lv rv (wWhen::[hd,v]) w e w':=by
 have hsrc:=fun u=>(rTermsOf_any v hv u).mono fun e w' h=>TermsP.one h
 have hpo:partO (wWhen::[hd,v]) r=match mapO readTm (spl 44 v) with
   | none=>none
   | some s=>some ⟨r.froms,r.tos,r.whens++[⟨hd,s⟩]⟩:=by
  rw[partW_when]
  unfold whenW
  simp only
  rw[if_neg hhd]
  cases mapO readTm (spl 44 v)<;>rfl
 obtain⟨ot,hot⟩:∃x,mapO readTm (spl 44 v)=x:=⟨_,rfl⟩
 rw[hot] at hpo hsrc
 clear hot
 obtain⟨b,off,hA,hm⟩:=h.ad
 subst hA
 obtain⟨hb,e0⟩:=h.one
 obtain⟨_,e1⟩:=h.cut.one
 obtain⟨_,e2⟩:=h.cut.cut.one
 rw[show off+1+1=off+2 from rfl] at e2
 obtain⟨curb,htb⟩:=hty b rfl
 obtain rfl:nw=3:=hm
 have hq4:hd.isEmpty=false:=by cases hd with
  | nil=>exact absurd rfl hhd
  | cons a x=>rfl
 have hq1:((strB wWhen).toList==[102,114,111,109])=false:=by rw[strB_toList];decide
 have hq2:((strB wWhen).toList==[116,111])=false:=by rw[strB_toList];decide
 have hq3:((strB wWhen).toList==[119,104,101,110])=true:=by rw[strB_toList];decide
 obtain⟨cur,A1,c1,A2,c2,A3,c3,kb,hlg,hgl,gc1,gc2,gc3,lt1,lt2,lt3⟩:=hT.cells hp hg
 obtain⟨n,hnn⟩:∃n,R0.length=n:=⟨_,rfl⟩
 obtain⟨wl,hwl⟩:∃n,r.whens.length=n:=⟨_,rfl⟩
 rw[hnn] at gc3 hR0 ⊢
 rw[hwl] at gc3 hw lt3
 obtain⟨ok,hok0⟩:∃x,ot.isSome=x:=⟨_,rfl⟩
 rw[hok0] at hsrc
 have HOK:=Lib.hid hok0
 have HPO:=Lib.hid hpo;have HT:=Lib.hid hT;have HP:=Lib.hid hp;have HG:=Lib.hid hg;have HNN:=Lib.hid hnn;have KB:=Lib.hid kb;have HLO:=Lib.hid hlo;have GC3:=Lib.hid gc3;have LT:=Lib.hid lt3;have HTB:=Lib.hid htb;have E1:=Lib.hid e1
 clear gc1 gc2 lt1 lt2 lt3 h hv hhd hty hok0 hpo hT hp hg hnn hwl kb gc3 hlo hf ht htb
 generalize strB v=sv at *
 go_enter Tryz.func31,Tryz.ntmps31
 go_wp2_with fail
 refine (hsrc _).mono ?_
 rintro e w1 ⟨f1,B1,n1,d1',rfl,hok⟩
 clear hsrc
 have hgW0:Blk w1 g 50 cur:=(f1.block g hgl).trans KB.out
 have e3:=(World.cell?_of_block (a:=⟨b,off+1,none⟩) (f1.block b hb)).trans E1.out
 go_wp2_with fail
 refine abs (fun u=>Below w.heap.size w u∧u.cell? ⟨b,off+1,none⟩=some (.string (strB hd))∧∀s,ot=some s→OwnR tmC 2 u w.heap.size 42 (.slice B1 n1 d1') s) ⟨f1,e3,hok⟩ ?_
 rintro u ⟨fu,eu,hrow⟩
 clear f1 hok e0 e1 e2 e3 hgW0
 obtain⟨wx,hwe⟩:∃x,(u.alloc (.cells #[.string (strB hd),.slice B1 n1 d1'] 60)).drew=x:=⟨_,rfl⟩
 have hx:Below u.heap.size u wx:=by rw[←hwe];exact ((Below.refl _ u).alloc (Nat.le_refl _) _).drew
 have fx:Below w.heap.size w wx:=fu.trans (hx.mono fu.size)
 have hcell:∀j v,[.string (strB hd),.slice B1 n1 d1'][j]?=some v→wx.cell? ((⟨u.heap.size,0,none⟩:Addr).add j)=some v:=by
  rw[←hwe]
  exact fun j v hv=>new_cells u [.string (strB hd),.slice B1 n1 d1'] 60 j v hv
 obtain⟨K',hT',hs'⟩:=HT.out.takeW (hd:=hd) (o:=ot) HLO.out fx fun s hs=>(hrow s hs).below (Nat.le_refl _) hx
 have kbx:Blk wx g 50 cur:=(fx.block g hgl).trans KB.out
 have htx:wx.heap[b]?=_:=(fx.block b hb).trans HTB.out
 have hv0:wx.cell? ⟨g,R0.length*3+2,none⟩=some (.slice A3 wl c3):=by rw[HNN.out];exact (kbx.cell _).trans GC3.out
 obtain⟨A',c',w',hrun,hgr,hown,hfin⟩:=hT'.addW (Nat.le_trans HLO.out fx.size) HP.out HG.out hv0 (cs:=[.string (strB hd),.slice B1 n1 d1']) rfl (by
  intro v hv
  simp only[List.mem_cons,List.mem_nil_iff,or_false] at hv
  rcases hv with rfl|rfl<;>rfl) (ad:=⟨u.heap.size,0,none⟩) (c9:=1) hcell (by omega) 48
 rw[HNN.out] at hfin
 have hgW:Blk w' g 50 cur:=kbx.grownNe hgr fun b hb=>(hown b hb).1
 have hnb:∀b',(Value.slice A3 wl c3).ownBlock=some b'→b'≠b:=fun b' hb' e=>by
  obtain⟨cur9,h9⟩:=(hown b' hb').2.2
  rw[e,htx] at h9
  injection h9 with h9
  injection h9 with _ h9
  exact absurd h9 (by decide)
 have hbW:w'.heap[b]?=wx.heap[b]?:=hgr.block b (Nat.lt_of_lt_of_le hb fx.size) fun e=>hnb b e.symm rfl
 have kub:Blk u g 50 cur:=(fu.block g hgl).trans KB.out
 have S0:PaW g (n*3+2) (.slice A3 wl c3) b (off+1) (.string (strB hd)) u:=⟨(kub.cell _).trans GC3.out,eu⟩
 have ex:wx.cell? ⟨b,off+1,none⟩=some (.string (strB hd)):=(World.cell?_of_block (a:=⟨b,off+1,none⟩) (fx.block b hb)).trans E1.out
 have S1:PaW g (n*3+2) (.slice A3 wl c3) b (off+1) (.string (strB hd)) wx:=⟨(kbx.cell _).trans GC3.out,ex⟩
 have S2:PaW g (n*3+2) (.slice A3 wl c3) b (off+1) (.string (strB hd)) w':=⟨(hgW.cell _).trans GC3.out,(World.cell?_of_block (a:=⟨b,off+1,none⟩) hbW).trans ex⟩
 have xg:=(hgW.cell (n*3+2)).trans GC3.out
 have xf:=hgW.frozen (n*3+2)
 have hlx:Below lo w (w'.setCell ⟨g,n*3+2,none⟩ (.slice A' (wl+1) c')):=(((fx.mono HLO.out).grown hgr (Nat.le_trans HLO.out fx.size) fun b hb=>(hown b hb).2.1).setCell (p:=⟨g,n*3+2,none⟩) hlg _)
 have hkeep:∀(b:Nat)(cur:Array Value),w.heap[b]?=some (Obj.cells cur 39 (0,0))→(w'.setCell ⟨g,n*3+2,none⟩ (.slice A' (wl+1) c')).heap[b]?=w.heap[b]?:=by
  intro b cur9 hb9
  have hbl:b<w.heap.size:=(Array.getElem?_eq_some_iff.1 hb9).1
  have e1:=fx.block b hbl
  have hbx9:=e1.trans hb9
  refine (Below.heap_setCell w' ⟨g,n*3+2,none⟩ _ b (typed_ne (w:=wx) ⟨_,hbx9⟩ ⟨_,kbx⟩ (by decide))).trans ((hgr.block b (Nat.lt_of_lt_of_le hbl fx.size) fun e=>?_).trans e1)
  exact typed_ne (w:=wx) ⟨_,hbx9⟩ (hown b e.symm).2.2 (by decide) rfl
 obtain⟨wS,hwS⟩:∃x,w'.setCell ⟨g,n*3+2,none⟩ (.slice A' (wl+1) c')=x:=⟨_,rfl⟩
 have hfin2:RPartP lo l p R0 r lv rv (wWhen::[hd,v]) w (.returned (.bool ok)) wS:=by
  rw[←hwS]
  refine⟨hlx,?_,fun r' hr'=>?_,hkeep⟩
  ·rw[HPO.out,←HOK.out]
   cases ot<;>rfl
  rw[HPO.out] at hr'
  rcases hs9:ot with _|s
  ·rw[hs9] at hr'
   cases hr'
  rw[hs9] at hr'
  injection hr' with hr'
  subst hr'
  exact⟨K',hfin _ (hs' s hs9)⟩
 have HFIN:=Lib.hid hfin2
 have HWS:=Lib.hid hwS
 have HRUN:=Lib.hid hrun
 clear hrun
 replace hrun:=HRUN.out
 subst hwe
 clear hkeep hfin hfin2 hs' hT' hlx hwS kub hown hgr hgW hbW hnb htx kbx hcell hrow fu fx hv0 hx ex
 refine wp_region_order (PaW g (n*3+2) (.slice A3 wl c3) b (off+1) (.string (strB hd))) 14 [(0,0),(1,0),(2,0),(3,0),(4,0),(5,0),(6,0),(7,0),(8,0),(9,0),(10,1),(11,1),(12,1),(13,0),(14,2)] (by kernel_rfl) (by kernel_rfl) ?_
 simp only[pick,List.filterMap_cons,List.filterMap_nil,List.getElem?_cons_zero,List.getElem?_cons_succ,Option.map_some]
 have hS:PaW g (n*3+2) (.slice A3 wl c3) b (off+1) (.string (strB hd)) u.drew:=S0
 obtain⟨e0,e1⟩:=id S0
 iterate 10 (refine wpF_take (v:=?_) S0 rfl ?_ (fun _ _ _ h=>h) ?_;rotate_left;(· intro w' hS';obtain⟨e0,e1⟩:=hS';go_simp<;>rfl);go_simp)
 refine wpF_only rfl (fun K hK=>?_)
 go_wp2_with fail
 first|refine⟨S1,?_⟩|skip
 refine wpF_only rfl (fun K hK=>?_)
 refine wp_append_run rfl rfl rfl hrun ?_
 clear hrun
 go_wp2_with fail
 first|refine⟨fun _=>S2,?_⟩|refine⟨S2,?_⟩|skip
 first|(refine wpF_only rfl (fun K hK=>?_);go_wp2_with fail;first|refine⟨fun _=>S2,?_⟩|refine⟨S2,?_⟩|skip)|skip
 clear hS S1 S0
 (refine wpF_take (v:=?_) S2 rfl ?_ (fun _ _ _ h=>h) ?_;rotate_left;(· intro w' hS';obtain⟨e0,e1⟩:=hS';go_simp<;>rfl);go_simp)
 refine wpF_only rfl (fun K hK=>?_)
 go_wp2_with fail
 first|refine⟨fun h=>absurd h (by decide),wpF_nil ?_⟩|skip
 clear S2
 rw[HWS.out]
 clear xg xf
 go_wp2_with fail
 go_ret
 exact HFIN.out
theorem rPart_any(K:Nat→Bool)(lo:Nat)(l:List Po)(p:Po)(R0:List Ru)(r:Ru)(lv rv:Value)(A:Option Addr)(nw cw:Nat)(x:List UInt8)(tl:List (List UInt8))(g cg:Nat)(w:World)(hT:Ty K w lo l p lv rv)(hlo:lo≤w.heap.size)(hp:p.rules=R0++[r])(hg:rv=.slice (some ⟨g,0,none⟩) (R0.length+1) cg)
  (hR0:R0.length<900000) (hf:r.froms.length<900000) (ht:r.tos.length<900000) (hw:r.whens.length<900000) (h:RdR sC 1 w w.heap.size A nw (x::tl)) (hn:nw≤1000001) (hsh:∀y∈tl,y.length≤1000000) (hty:∀b,(Value.slice A nw cw).ownBlock=some b→∃cur,w.heap[b]?=some (.cells cur 9 (0,0))) :
  Calls Tryz.prog 31 #[.pointer (some ⟨g,R0.length*3,none⟩),.slice A nw cw] w fun e w'=>RPartP lo l p R0 r lv rv (x::tl) w e w':=by
 by_cases x1:x=wFrom
 ·subst x1;exact rPart_from K lo l p R0 r lv rv A nw cw tl g cg w hT hlo hp hg hR0 hf ht hw h hn hsh
 by_cases x2:x=wTo
 ·subst x2;exact rPart_to K lo l p R0 r lv rv A nw cw tl g cg w hT hlo hp hg hR0 hf ht hw h hn hsh
 by_cases x3:x=wWhen
 ·subst x3
  rcases tl with _|⟨a,_|⟨b,_|⟨c,r2⟩⟩⟩
  ·exact rPart_when0 K lo l p R0 r lv rv A nw cw _ g cg w hT hlo hp hg hR0 hf ht hw h hn hsh rfl (.inl (by simp))
  ·exact rPart_when0 K lo l p R0 r lv rv A nw cw _ g cg w hT hlo hp hg hR0 hf ht hw h hn hsh rfl (.inl (by simp))
  ·by_cases ha:a=[]
   ·subst ha
    exact rPart_when0 K lo l p R0 r lv rv A nw cw _ g cg w hT hlo hp hg hR0 hf ht hw h hn hsh (by unfold whenW;simp) (.inr rfl)
   exact rPart_when1 K lo l p R0 r lv rv A nw cw a b g cg w hT hlo hp hg hR0 hf ht hw h hn (hsh b (by simp)) ha hty
  exact rPart_when0 K lo l p R0 r lv rv A nw cw _ g cg w hT hlo hp hg hR0 hf ht hw h hn hsh rfl (.inl (by simp))
 exact rPart_no x K lo l p R0 r lv rv A nw cw tl g cg w hT hlo hp hg hR0 hf ht hw h hn hsh x1 x2 x3
def RSt(lo:Nat)(w:World)(st:PS)(lv bv:Value):Prop:=match st.cur with
 | none=>lv=.slice none 0 0∧bv=.int .i64 0∧st.l=[]
 | some (p,f)=>bv=.int .i64 (f:Int)∧∃K rv,Ty K w lo st.l p lv rv
theorem beg_split{x:List UInt8}(h:begP x=true):spl 32 x=wPolicy::(spl 32 x).tail∧7≤x.length∧x.take 7=wPol7:=by
 have h1:=(begP_is h).1
 rw[isW_iff] at h1
 refine⟨?_,?_⟩
 ·cases hs:spl 32 x with
  | nil=>rw[hs] at h1;cases h1
  | cons a r=>rw[hs] at h1;injection h1 with h1;rw[h1];rfl
 unfold begP at h
 obtain⟨r,rfl⟩:=List.isPrefixOf_iff_prefix.1 h
 exact⟨by simp[wPol7],by simp[wPol7]⟩
theorem beg_no{x:List UInt8}(h:begP x=false)(hl:7≤x.length):x.take 7≠wPol7:=fun e=>by
 unfold begP at h
 have:wPol7.isPrefixOf x=true:=List.isPrefixOf_iff_prefix.2 ⟨x.drop 7,by rw[←e];exact List.take_append_drop 7 x⟩
 rw[this] at h
 cases h
theorem w4_split{x:List UInt8}:(w4.isPrefixOf x=true)↔(4≤x.length∧x.take 4=w4):=by
 rw[List.isPrefixOf_iff_prefix]
 constructor
 ·rintro ⟨r,rfl⟩
  exact⟨by simp[w4],by simp[w4]⟩
 rintro ⟨_,e⟩
 exact⟨x.drop 4,by rw[←e];exact List.take_append_drop 4 x⟩
theorem OwnR.capM{α:Type}{enc:α→List Value}{k:Nat}{w:World}{base e:Nat}{A:Option Addr}{n c:Nat}{L:List α}(h:OwnR enc k w base e (.slice A n c) L):c≤maxLen:=by
 rcases h.2 with ⟨h1,h2⟩|⟨g,cap,cur,h1,h2,h3,h4,h5,h6,h7⟩
 ·injection h1 with _ _ h3;omega
 injection h1 with _ _ h3;omega
theorem w4_val{x:List UInt8}(h:4≤x.length):(((strB x).extract 0 4).toList==[32,32,32,32])=w4.isPrefixOf x:=by
 rw[ext_str,strB_toList,List.drop_zero]
 cases hb:w4.isPrefixOf x with
 | true=>rw[(w4_split.1 hb).2];rfl
 | false=>exact beq_eq_false_iff_ne.2 fun e=>absurd (w4_split.2 ⟨h,e⟩) (by rw[hb];decide)
theorem ext_from{x:List UInt8}{n:Nat}(h:n=x.length):(strB x).extract 4 n=strB (x.drop 4):=by
 rw[ext_str,h,List.take_of_length_le (by simp)]
theorem beg_val{x:List UInt8}(h:7≤x.length):(((strB x).extract 0 7).toList==[112,111,108,105,99,121,32])=begP x:=by
 rw[ext_str,strB_toList,List.drop_zero]
 cases hb:begP x with
 | true=>rw[(beg_split hb).2.2];rfl
 | false=>exact beq_eq_false_iff_ne.2 (beg_no hb h)
theorem beg_short{x:List UInt8}(h:(x.length:Int)<7):begP x=false:=by
 cases hb:begP x with
 | false=>rfl
 | true=>have:=(beg_split hb).2.1;omega
theorem parse_end{s:List UInt8}{i:Nat}{st:PS}(hx:(spl 10 s)[i]?=some [])(hi:i+1=(spl 10 s).length)(h1:runP 1 ((spl 10 s).take i) ⟨[],none⟩=.ok st):parseS s=finP st:=by
 unfold parseS parseL
 have hd:(spl 10 s).dropLast=(spl 10 s).take i:=by rw[List.dropLast_eq_take,←hi];rfl
 have hg:(spl 10 s).getLast?=some []:=by rw[List.getLast?_eq_getElem?,←hi];exact hx
 rw[hd,h1]
 simp only
 rw[hg,if_pos rfl]
theorem beg_step{n:Nat}{x:List UInt8}{st:PS}(h:begP x=true):stepP n x st=match finP st with
  | .error e=>.error e
  | .ok l=>match policyW (spl 32 x).tail with
   | none=>.error n
   | some p=>.ok ⟨l,some (p,n)⟩:=by
 unfold stepP
 rw[if_pos h,policy_eq]
 cases finP st with
 | error e=>rfl
 | ok l=>simp only;cases policyW (spl 32 x).tail<;>rfl
theorem con_step{n:Nat}{x:List UInt8}{l:List Po}{p:Po}{f:Nat}(h:begP x=false):stepP n x ⟨l,some (p,f)⟩=match contO x p with
  | none=>.error n
  | some p'=>.ok ⟨l,some (p',f)⟩:=by
 unfold stepP
 rw[if_neg (by rw[h];decide)]
 rfl
theorem non_step{n:Nat}{x:List UInt8}{l:List Po}(h:begP x=false):stepP n x ⟨l,none⟩=.error n:=by
 unfold stepP
 rw[if_neg (by rw[h];decide)]
theorem con_rule{p:Po}:contO wRule p=some { p with rules:=p.rules++[ru0] }:=by
 unfold contO
 rw[if_neg (by decide),if_pos rfl]
theorem con_none{x:List UInt8}{p:Po}(h:x≠wRule)(h2:w4.isPrefixOf x=false∨p.rules=[]):contO x p=none:=by
 unfold contO
 rcases h2 with h2|h2
 ·rw[if_neg (by rw[h2];decide),if_neg h]
 rw[h2,if_neg h]
 split<;>rfl
theorem con_part{x:List UInt8}{p:Po}{R0:List Ru}{r:Ru}(h:w4.isPrefixOf x=true)(hp:p.rules=R0++[r]):contO x p=match partO (spl 32 (x.drop 4)) r with
  | none=>none
  | some r'=>some { p with rules:=R0++[r'] }:=by
 unfold contO
 rw[if_pos h,hp]
 simp only[List.getLast?_append,List.getLast?_singleton,Option.some_or,List.dropLast_concat]
 cases partO (spl 32 (x.drop 4)) r<;>rfl
theorem rParse_long(s:List UInt8)(w:World)(hs:65536<s.length):Calls Tryz.prog 14 #[.string (strB s)] w fun e w'=>e=.returned (.tuple #[.slice none 0 0,.int .i64 0,.int .i64 6])∧Below w.heap.size w w':=by
 have hq:decide ((65536:Int)<((strB s).size:Int))=true:=by rw[strB_size];simp;omega
 have hq2:(65536:Int)<((strB s).size:Int):=by rw[strB_size];omega
 go_enter Tryz.func14,Tryz.ntmps14
 go_wp2_with fail
 go_ret3
 exact⟨rfl,Below.refl _ _⟩
set_option maxRecDepth 100000 in
set_option maxHeartbeats 16000000 in
theorem rParse_any(s:List UInt8)(w:World)(hs:s.length≤65536):Calls Tryz.prog 14 #[.string (strB s)] w fun e w'=>PsQ s w e w':=by
 have hcut:=rCut_any s 10 (by omega) w
 have hlen:=spl_len 10 s
 have hml:=spl_mem_len 10 s
 have hq:decide ((65536:Int)<((strB s).size:Int))=false:=by rw[strB_size];simp;omega
 have hq2:¬(65536:Int)<((strB s).size:Int):=by rw[strB_size];omega
 rw[show ((10:UInt8).toNat:Int)=10 from rfl] at hcut
 generalize strB s=ss at *
 go_enter Tryz.func14,Tryz.ntmps14
 go_wp2_with fail
 refine hcut.mono ?_
 rintro e w1 ⟨Ap,np,cp,rfl,hown,f1⟩
 have hrow:=hown.rd sC_len
 clear hown
 have hnp:=hrow.1
 have hpos:0<np:=by
  have:spl 10 s≠[]:=spl_ne 10 s
  rw[←hnp]
  exact List.length_pos_iff.2 this
 have HR:=Lib.hid hrow;have HML:=Lib.hid hml;have HNP:=Lib.hid hnp
 have hnp6:np≤65537:=by omega
 clear hcut hrow hml hlen hnp hq hq2
 go_wp2_with fail
 go_loopw [8,5,6] (fun v8 v5 v6 wr=>∃(i:Nat)(st:PS),v8=.int .i64 ((i:Int)+1)∧i+1≤np∧runP 1 ((spl 10 s).take i) ⟨[],none⟩=.ok st∧okPS i st∧Below w1.heap.size w1 wr∧RSt w1.heap.size wr st v5 v6) (fun v8 _ _ _=>np-(intOf v8).toNat)
 case atStart=>exact⟨0,⟨[],none⟩,rfl,by omega,rfl,okPS0,Below.refl _ _,rfl,rfl,rfl⟩
 case round =>
  obtain⟨i,st,rfl,hi,hrun,hps,f2,hst⟩:=hrel
  by_cases hlt:i+1<np
  ·have d5:decide ((i:Int)+1<(np:Int))=true:=by simp;omega
   have b1:(0:Int)≤(i:Int):=by omega
   have b2:(i:Int)<(np:Int):=by omega
   have hiP:i<(spl 10 s).length:=by have:=HNP.out;omega
   obtain⟨b,off,rfl,hb,hcell⟩:=HR.out.2 (by omega)
   have g0:=(f2.cell (p:=⟨b,off+i*1+0,none⟩) hb).trans (hcell i hiP 0 _ rfl)
   rw[Nat.add_zero,Nat.mul_one] at g0
   have hxl:=HML.out _ (List.getElem_mem hiP)
   obtain⟨x,hx⟩:∃x,(spl 10 s)[i]=x:=⟨_,rfl⟩
   have hxi:(spl 10 s)[i]?=some x:=by rw[List.getElem?_eq_getElem hiP,hx]
   rw[hx] at hxl
   replace g0:wr.cell? ⟨b,off+i,none⟩=some (.string (strB x)):=by rw[←hx];exact g0
   have HE:=Lib.hid (fun e (he:stepP (i+1) x st=.error e)=>parse_step hxi (by have:=HNP.out;omega) hrun he)
   have HN:=Lib.hid (fun st' (he:stepP (i+1) x st=.ok st')=>(⟨run_next hxi hrun he,stepP_ok (B:=65536) (by omega) (by omega) hps he⟩:runP 1 ((spl 10 s).take (i+1)) ⟨[],none⟩=.ok st'∧okPS (i+1) st'))
   have HPS:=Lib.hid hps
   have hxl2:x.length≤65536:=by omega
   clear hx hxi hcell hrun hps hxl
   have d6:((strB x).size:Int)=(x.length:Int):=by rw[strB_size]
   go_upto_region 10 with fail
   go_cut [36] (fun v wx=>v=.bool (begP x)∧wx=wr)
   case first =>
    by_cases h7:(x.length:Int)<7
    ·have HB:=Lib.hid (beg_short h7)
     go_wp2_with fail
     go_meet
     exact⟨by rw[HB.out],rfl⟩
    have HB:=Lib.hid (beg_val (x:=x) (by omega))
    go_wp2_with fail
    go_meet
    exact⟨by rw[HB.out],rfl⟩
   obtain⟨hv9,hw9⟩:=hcut
   subst hv9
   obtain⟨wz,ewz⟩:∃y:World,y=wc:=⟨_,rfl⟩
   rw[←ewz] at hw9 ⊢
   clear ewz
   subst hw9
   obtain⟨bg,hbg⟩:∃y,begP x=y:=⟨_,rfl⟩
   have HBG:=Lib.hid hbg
   rw[hbg]
   clear hbg g0 d6
   obtain⟨l,cur⟩:=st
   have hnl:l.length≤i:=by have:=HPS.out.len;simp only at this;omega
   rcases cur with _|⟨p,f⟩
   ·obtain⟨rfl,rfl,hl0⟩:=hst
    rcases bg with _|_
    ·have HE9:=Lib.hid (HE.out _ (non_step (n:=i+1) (x:=x) (l:=l) HBG.out))
     go_wp2_with fail
     go_ret3
     exact⟨f1.trans (f2.mono f1.size),.inr ⟨i+1,by omega,HE9.out,by go_num⟩⟩
    have hst9:=beg_step (n:=i+1) (st:=⟨l,none⟩) HBG.out
    simp only[finP] at hst9
    simp only at hl0
    subst hl0
    have hcs:=rCut_any x 32 (by omega) wz
    rw[show ((32:UInt8).toNat:Int)=32 from rfl,(beg_split HBG.out).1] at hcs
    have htl:∀y∈(spl 32 x).tail,y.length≤1000000:=fun y hy=>Nat.le_trans (spl_mem_len 32 x y (List.mem_of_mem_tail hy)) (by omega)
    have hsl:=spl_len 32 x
    rw[(beg_split HBG.out).1,List.length_cons] at hsl
    obtain⟨tl,htq⟩:∃y,(spl 32 x).tail=y:=⟨_,rfl⟩
    rw[htq] at hcs htl hsl hst9
    clear htq
    go_wp2_with fail
    refine hcs.mono ?_
    rintro e w2 ⟨A2,n2,c2,rfl,hown2,f3⟩
    have hrd:=hown2.rd sC_len
    have hcap2:=hown2.cap
    have hcap3:=hown2.capM
    have hn2:=hrd.1
    rw[List.length_cons] at hn2
    have hpol:=rPol_any A2 n2 c2 tl w2 hrd hcap2 hcap3 (by omega) htl
    clear hcs hown2 hrd hcap2 hcap3 hn2 htl hsl
    go_wp2_with fail
    refine hpol.mono ?_
    rintro e w3 ⟨f4,q,hq0,rfl,hqp⟩
    clear hpol
    rcases hpw:policyW tl with _|p'
    ·rw[hpw] at hst9
     have HE9:=Lib.hid (HE.out _ hst9)
     clear hst9 hqp
     have f5:=f2.trans ((f3.trans (f4.mono f3.size)).mono f2.size)
     go_wp2_with fail
     go_ret3
     exact⟨f1.trans ((f5.alloc f5.size _).mono f1.size),.inr ⟨i+1,by omega,HE9.out,by go_num⟩⟩
    rw[hpw] at hst9
    have hq9:=hqp p' hpw
    subst hq9
    have HN9:=Lib.hid (HN.out _ hst9)
    clear hst9 hqp
    obtain⟨w4a,hw4a⟩:∃y,w3.alloc (.cells #[.int .u64 (q.id:Int),.string (strB q.ns),.int .u64 (q.service:Int),.int .i64 q.deny,.slice none 0 0] 39)=y:=⟨_,rfl⟩
    have k4a:Blk w4a w3.heap.size 39 (poC q (.slice none 0 0)):=by rw[←hw4a];exact Blk.newAt rfl _ _
    obtain⟨z0,z1,z2,z3,z4⟩:_∧_∧_∧_∧_:=⟨k4a.frozen 0,k4a.frozen 1,k4a.frozen 2,k4a.frozen 3,k4a.frozen 4⟩
    have foa:Below wz.heap.size wz w4a:=by rw[←hw4a];exact (f3.trans (f4.mono f3.size)).alloc (by have:=f3.size;have:=f4.size;omega) _
    obtain⟨c0,c1,c2,c3,c4⟩:_∧_∧_∧_∧_:=⟨k4a.cell 0,k4a.cell 1,k4a.cell 2,k4a.cell 3,k4a.cell 4⟩
    simp only[poC,List.getElem?_cons_zero,List.getElem?_cons_succ] at c0 c1 c2 c3 c4
    go_upto_region 14 with fail
    clear c0 c1 c2 c3 c4
    refine abs (fun u=>Blk u w3.heap.size 39 (poC q (.slice none 0 0))∧Below wz.heap.size wz u) ⟨k4a.set 4 _,foa.setCell (p:=⟨w3.heap.size,4,none⟩) (by have:=f3.size;have:=f4.size;show _≤w3.heap.size;omega) _⟩ ?_
    rintro w4 ⟨k4,fo⟩
    clear z0 z1 z2 z3 z4
    obtain⟨c0,c1,c2,c3,c4⟩:_∧_∧_∧_∧_:=⟨k4.cell 0,k4.cell 1,k4.cell 2,k4.cell 3,k4.cell 4⟩
    simp only[poC,List.getElem?_cons_zero,List.getElem?_cons_succ] at c0 c1 c2 c3 c4
    have f6:=f2.trans (fo.mono f2.size)
    obtain⟨w5,hw5⟩:∃y,w4.alloc (.cells #[.int .u64 (q.id:Int),.string (strB q.ns),.int .u64 (q.service:Int),.int .i64 q.deny,.slice none 0 0] 39)=y:=⟨_,rfl⟩
    have f7:Below w1.heap.size w1 w5:=by rw[←hw5];exact f6.alloc f6.size _
    have fo2:Below wz.heap.size wz w5:=by rw[←hw5];exact fo.alloc fo.size _
    have hcell:∀j u,(poC q (.slice none 0 0))[j]?=some u→w5.cell? ((⟨w4.heap.size,0,none⟩:Addr).add j)=some u:=by
     rw[←hw5]
     exact fun j u hu=>new_cells w4 (poC q (.slice none 0 0)) 39 j u hu
    obtain⟨A',c',w6,hrun,hgr,hT9⟩:=Ty.first (p:=q) (lo:=w1.heap.size) f7.size (c9:=1) hq0 hcell 22
    replace hT9:∃K rv,Ty K w6 w1.heap.size [] q (.slice A' 1 c') rv:=⟨_,_,hT9⟩
    have HQ9:=Lib.hid hT9
    have f8:Below w1.heap.size w1 w6:=f7.grown hgr f7.size (fun k hk=>by cases hk)
    have HF8:=Lib.hid f8
    subst hw5
    have HRUN:=Lib.hid hrun
    clear hrun hT9 hgr hcell foa k4a fo fo2 f6 f7 f8 k4 f3 f4
    clear hpw hq0
    go_wp2_with (refine append_run rfl rfl rfl rfl HRUN.out ?_)
    go_roundw
    case rel=>exact⟨i+1,⟨[],some (q,i+1)⟩,by go_num,by omega,HN9.out.1,HN9.out.2,HF8.out,by go_num,HQ9.out⟩
    case measure=>simp[intOf];omega
   obtain⟨rfl,K,rv,hT⟩:=hst
   have hf:=HPS.out.cur p f rfl
   rcases bg with _|_
   ·obtain⟨g,cg,cur,hlv,hcg1,hcg2,hlg,kg,hgl5,hgc⟩:=hT.last
    subst hlv
    have hg4:=hgc 4 (by omega)
    have c4:=(kg.cell (l.length*5+4)).trans hg4
    simp only[poC,List.getElem?_cons_zero,List.getElem?_cons_succ] at c4 hg4
    have d7:((f:Int)==0)=false:=by rw[beq_eq_false_iff_ne];omega
    have d7n:¬(f:Int)=0:=by omega
    have i1:(0:Int)≤(l.length:Int):=by omega
    have i2:(l.length:Int)<(l.length:Int)+1:=by omega
    obtain⟨Ar,nr,cr,hrv,_,_,hrd⟩:=hT.rules.rvv
    subst hrv
    have hnr:p.rules.length=nr:=hrd.1
    have hnr6:nr≤i:=by have:=hf.1.len;omega
    clear hrd hgc hgl5 hcg1 hcg2
    by_cases hr:x=wRule
    ·subst hr
     have hst9:=con_step (n:=i+1) (l:=l) (p:=p) (f:=f) HBG.out
     rw[con_rule] at hst9
     simp only at hst9
     have HN9:=Lib.hid (HN.out _ hst9)
     clear hst9
     have hq:((strB wRule).toList==[32,32,114,117,108,101])=true:=by rw[strB_toList];decide
     have hq2:(wRule==[32,32,114,117,108,101])=true:=by decide
     obtain⟨wx,hwx⟩:∃y,wz.alloc (.cells #[.slice none 0 0,.slice none 0 0,.slice none 0 0] 50)=y:=⟨_,rfl⟩
     have hx:Below wz.heap.size wz wx:=by rw[←hwx];exact (Below.refl _ _).alloc (Nat.le_refl _) _
     have hcell:∀j u,[Value.slice none 0 0,.slice none 0 0,.slice none 0 0][j]?=some u→wx.cell? ((⟨wz.heap.size,0,none⟩:Addr).add j)=some u:=by
      rw[←hwx]
      exact fun j u hu=>new_cells wz [Value.slice none 0 0,.slice none 0 0,.slice none 0 0] 50 j u hu
     obtain⟨A',c',w',hrun,hgr,hown,K',hT9⟩:=hT.pushR rfl hx (c9:=1) f2.size (g:=g) rfl hcell (by omega) 37
     have kgx:=kg.below hx kg.lt
     have kgw:=kgx.grownNe hgr fun b hb=>(hown b hb).1
     have x4:=(kgw.cell (l.length*5+4)).trans hg4
     have x4f:=kgw.frozen (l.length*5+4)
     replace hT9:∃K rv,Ty K (w'.setCell ⟨g,l.length*5+4,none⟩ (.slice A' (nr+1) c')) w1.heap.size l { p with rules:=p.rules++[ru0] } (.slice (some ⟨g,0,none⟩) (l.length+1) cg) rv:=⟨_,_,hT9⟩
     have HQ9:=Lib.hid hT9
     have HF8:=Lib.hid (((f2.trans (hx.mono f2.size)).grown hgr (Nat.le_trans f2.size hx.size) fun b hb=>(hown b hb).2).setCell (p:=⟨g,l.length*5+4,none⟩) hlg (.slice A' (nr+1) c'))
     subst hwx
     have HRUN:=Lib.hid hrun
     clear hrun hT9 hgr hown hcell hx kgx kgw kg hg4 hT hf hnr
     go_wp2_with (refine append_run rfl rfl rfl rfl HRUN.out ?_)
     go_roundw
     case rel=>exact⟨i+1,⟨l,some ({ p with rules:=p.rules++[ru0] },f)⟩,by go_num,by omega,HN9.out.1,HN9.out.2,HF8.out,by go_num,HQ9.out⟩
     case measure=>simp[intOf];omega
    have hq:(x==[32,32,114,117,108,101])=false:=beq_eq_false_iff_ne.2 hr
    have hst9:=con_step (n:=i+1) (l:=l) (p:=p) (f:=f) HBG.out
    have d6:((strB x).size:Int)=(x.length:Int):=by rw[strB_size]
    by_cases h4:w4.isPrefixOf x=true
    ·obtain⟨h4l,_⟩:=w4_split.1 h4
     have q4:=w4_val h4l
     rw[h4] at q4
     have d4:¬(x.length:Int)<4:=by omega
     by_cases hR:p.rules=[]
     ·rw[con_none hr (.inr hR)] at hst9
      simp only at hst9
      have HE9:=Lib.hid (HE.out _ hst9)
      rw[hR,List.length_nil] at hnr
      subst hnr
      clear hst9 hR h4 hr hT hf kg hg4
      go_wp2_with fail
      go_ret3
      exact⟨f1.trans (f2.mono f1.size),.inr ⟨i+1,by omega,HE9.out,by go_num⟩⟩
     obtain⟨R0,r,hp⟩:∃R0 r,p.rules=R0++[r]:=⟨p.rules.dropLast,p.rules.getLast hR,(List.dropLast_concat_getLast hR).symm⟩
     rw[con_part h4 hp] at hst9
     have hTr:=hT.rules
     rw[hp] at hTr
     obtain⟨gr,cgr,_,_,_,_,_,hrv,_⟩:=hTr.last
     injection hrv with hv1 hv2 hv3
     subst hv1 hv2 hv3
     clear hTr hR
     have hws:spl 32 (x.drop 4)≠[]:=spl_ne 32 _
     have hsl:=spl_len 32 (x.drop 4)
     have hml:=spl_mem_len 32 (x.drop 4)
     obtain⟨W,hW⟩:∃y,spl 32 (x.drop 4)=y:=⟨_,rfl⟩
     have hcs:=fun u=>rCut_any (x.drop 4) 32 (by rw[List.length_drop];omega) u
     rw[hW] at hcs hws hsl hml hst9
     rw[show ((32:UInt8).toNat:Int)=32 from rfl] at hcs
     clear hW
     rw[List.length_drop] at hsl
     obtain⟨x1,tl,rfl⟩:∃a b,W=a::b:=by
      cases W with
      | nil=>exact absurd rfl hws
      | cons a b=>exact⟨a,b,rfl⟩
     obtain⟨ok,hok⟩:∃y,(partO (x1::tl) r).isSome=y:=⟨_,rfl⟩
     have HOK:=Lib.hid hok
     have hrm:=hf.1.rules r (by rw[hp];simp)
     have HRM:=Lib.hid hrm
     have HT:=Lib.hid hT;have HP:=Lib.hid hp;have HST:=Lib.hid hst9;have HSL:=Lib.hid hsl;have HML2:=Lib.hid hml
     have dn:(((R0.length+1:Nat):Int)==0)=false:=by rw[beq_eq_false_iff_ne];omega
     have dn2:((R0.length:Int)+1==0)=false:=by rw[beq_eq_false_iff_ne];omega
     have j1:(0:Int)≤(R0.length:Int):=by omega
     have hwn:IntKind.i64.wrap (R0.length:Int)=(R0.length:Int):=IntWalk.i64_in _ (by omega)
     have j2:(R0.length:Int)<(R0.length:Int)+1:=by omega
     have b4:(4:Int)≤(x.length:Int):=by omega
     have hgl:=kg.lt
     have HKG:=Lib.hid kg
     have S0:PaC0 g (l.length*5+4) (.slice (some ⟨gr,0,none⟩) (R0.length+1) cr) wz:=⟨c4,trivial⟩
     have hex:(strB x).extract 4 x.length=strB (x.drop 4):=ext_from rfl
     have hex2:(strB x).extract 4 (strB x).size=strB (x.drop 4):=ext_from (strB_size x)
     clear hst9 h4 hr hT hf kg hg4 hnr hok hrm hws hsl hml hp
     go_upto_region 25 with fail
     clear c4
     refine wp_region_order (PaC0 g (l.length*5+4) (.slice (some ⟨gr,0,none⟩) (R0.length+1) cr)) 100 [(0,0),(1,0),(2,0),(3,0),(4,0),(5,0),(6,0),(7,0),(8,0),(9,0),(10,0),(11,0),(12,0),(13,1),(14,1),(15,0)] (by kernel_rfl) (by kernel_rfl) ?_
     simp only[pick,List.filterMap_cons,List.filterMap_nil,List.getElem?_cons_zero,List.getElem?_cons_succ,Option.map_some]
     have hS:PaC0 g (l.length*5+4) (.slice (some ⟨gr,0,none⟩) (R0.length+1) cr) wz.drew:=S0
     obtain⟨e0,_⟩:=id S0
     iterate 13 (refine wpF_take (v:=?_) hS rfl ?_ (fun _ _ _ h=>h) ?_;rotate_left;(· intro w' hS';obtain⟨e0,_⟩:=hS';go_simp<;>rfl);go_simp)
     clear hS e0
     refine wpF_only rfl (fun K hK=>?_)
     go_wp2_with fail
     refine (hcs _).mono ?_
     rintro e w2 ⟨A2,n2,c2,rfl,hown2d,f3d⟩
     have f3:Below wz.heap.size wz w2:=(Below.refl _ wz).drew.trans f3d
     have hown2:OwnR sC 1 w2 wz.heap.size 9 (.slice A2 n2 c2) (x1::tl):=hown2d
     clear f3d hown2d
     have hrd2:=hown2.rd sC_len
     have htyp2:=fun b (hb:(Value.slice A2 n2 c2).ownBlock=some b)=>ownsRow_typed hown2 hb
     have hn2:=hrd2.1
     rw[List.length_cons] at hn2
     have hpart:=rPart_any _ w1.heap.size l p R0 r _ _ A2 n2 c2 x1 tl gr cr w2 (HT.out.below f3) (Nat.le_trans f2.size f3.size) HP.out rfl (by omega) (by have:=HRM.out.1.1;omega) (by have:=HRM.out.2.1.1;omega) (by have:=HRM.out.2.2.1;omega) hrd2 (by have:=HSL.out;rw[List.length_cons] at this;omega) (fun y hy=>Nat.le_trans (HML2.out y (List.mem_cons_of_mem _ hy)) (by rw[List.length_drop];omega)) htyp2
     have kg2:=HKG.out.below f3 HKG.out.lt
     have S2:PaC0 g (l.length*5+4) (.slice (some ⟨gr,0,none⟩) (R0.length+1) cr) w2:=⟨(World.cell?_of_block (a:=⟨g,l.length*5+4,none⟩) (f3.block g HKG.out.lt)).trans S0.1,trivial⟩
     clear hown2 hrd2 htyp2 hn2
     go_wp2_with fail
     first|refine⟨fun _=>S2,?_⟩|refine⟨S2,?_⟩|skip
     refine wpF_only rfl (fun K hK=>?_)
     go_wp2_with fail
     refine hpart.mono ?_
     rintro e w3 ⟨f4,rfl,hT3,hkeep⟩
     rw[HOK.out]
     have f5:Below w1.heap.size w1 w3:=f2.trans ((f3.mono f2.size).trans f4)
     have S3:PaC0 g (l.length*5+4) (.slice (some ⟨gr,0,none⟩) (R0.length+1) cr) w3:=⟨(World.cell?_of_block (a:=⟨g,l.length*5+4,none⟩) (hkeep g _ kg2)).trans S2.1,trivial⟩
     have HST3:=Lib.hid (show (partO (x1::tl) r=none→parseS s=.error (i+1))∧∀r',partO (x1::tl) r=some r'→(runP 1 ((spl 10 s).take (i+1)) ⟨[],none⟩=.ok ⟨l,some ({ p with rules:=R0++[r'] },f)⟩∧okPS (i+1) ⟨l,some ({ p with rules:=R0++[r'] },f)⟩)∧∃K',Ty K' w3 w1.heap.size l { p with rules:=R0++[r'] } (.slice (some ⟨g,0,none⟩) (l.length+1) cg) (.slice (some ⟨gr,0,none⟩) (R0.length+1) cr) from
      ⟨fun hn=>HE.out _ (by have:=HST.out;rw[hn] at this;exact this),fun r' hr'=>⟨HN.out _ (by have:=HST.out;rw[hr'] at this;exact this),hT3 r' hr'⟩⟩)
     clear hkeep hT3 kg2 hpart hcs
     go_wp2_with fail
     first|refine⟨fun _=>S3,?_⟩|refine⟨S3,?_⟩|skip
     clear S2 S0
     (refine wpF_take (v:=?_) S3 rfl ?_ (fun _ _ _ h=>h) ?_;rotate_left;(· intro w' hS';obtain _:=hS';go_simp<;>rfl);go_simp)
     refine wpF_nil ?_
     clear S3
     rcases ok with _|_
     ·have HE9:=Lib.hid (HST3.out.1 (Option.not_isSome_iff_eq_none.1 (by rw[HOK.out];decide)))
      go_wp2_with fail
      go_ret3
      exact⟨f1.trans (f5.mono f1.size),.inr ⟨i+1,by omega,HE9.out,by go_num⟩⟩
     obtain⟨r',hr'⟩:=Option.isSome_iff_exists.1 HOK.out
     have HN9:=Lib.hid (HST3.out.2 r' hr')
     clear hr'
     go_wp2_with fail
     go_roundw
     case rel=>exact⟨i+1,⟨l,some ({ p with rules:=R0++[r'] },f)⟩,by go_num,by omega,HN9.out.1.1,HN9.out.1.2,f5,by go_num,HN9.out.2.elim fun K' h=>⟨K',_,h⟩⟩
     case measure=>simp[intOf];omega
    have h4f:w4.isPrefixOf x=false:=by
     cases hb:w4.isPrefixOf x with
     | false=>rfl
     | true=>exact absurd hb h4
    rw[con_none hr (.inl h4f)] at hst9
    simp only at hst9
    have HE9:=Lib.hid (HE.out _ hst9)
    by_cases h4l:(x.length:Int)<4
    ·clear hst9 h4 h4f hr hT hf kg hg4 hnr
     go_wp2_with fail
     go_ret3
     exact⟨f1.trans (f2.mono f1.size),.inr ⟨i+1,by omega,HE9.out,by go_num⟩⟩
    have q4:=w4_val (x:=x) (by omega)
    rw[h4f] at q4
    clear hst9 h4 h4f hr hT hf kg hg4 hnr
    go_wp2_with fail
    go_ret3
    exact⟨f1.trans (f2.mono f1.size),.inr ⟨i+1,by omega,HE9.out,by go_num⟩⟩
   have hst9:=beg_step (n:=i+1) (st:=⟨l,some (p,f)⟩) HBG.out
   simp only[finP] at hst9
   obtain⟨g,cg,cur,hlv,hcg1,hcg2,hlg,kg,hgl5,hgc⟩:=hT.last
   subst hlv
   have c0:=(kg.cell (l.length*5)).trans (hgc 0 (by omega))
   have c1:=(kg.cell (l.length*5+1)).trans (hgc 1 (by omega))
   have c2:=(kg.cell (l.length*5+2)).trans (hgc 2 (by omega))
   have c3:=(kg.cell (l.length*5+3)).trans (hgc 3 (by omega))
   have c4:=(kg.cell (l.length*5+4)).trans (hgc 4 (by omega))
   simp only[poC,List.getElem?_cons_zero,List.getElem?_cons_succ] at c0 c1 c2 c3 c4
   have d7:decide ((0:Int)<(f:Int))=true:=by simp;omega
   have d8:(0:Int)<(f:Int):=by omega
   have i1:(0:Int)≤(l.length:Int):=by omega
   have i2:(l.length:Int)<(l.length:Int)+1:=by omega
   have hmay:Calls Tryz.prog 20 #[.agg #[.int .u64 (p.id:Int),.string (strB p.ns),.int .u64 (p.service:Int),.int .i64 p.deny,rv]] wz fun e w'=>e=.returned (.bool (poMay p))∧Below wz.heap.size wz w':=rmay12_any p (poC p rv) wz hT.po (hf.1.ok (by omega))
   have HT:=Lib.hid hT;have HF:=Lib.hid hf
   clear hgc hgl5 hcg1 hcg2 kg hT hf
   rcases hm:poMay p with _|_
   ·rw[hm] at hst9 hmay
    simp only[Bool.false_eq_true,if_false] at hst9
    have HE9:=Lib.hid (HE.out _ hst9)
    clear hst9 hm
    go_wp2_with fail
    refine hmay.mono ?_
    rintro e w2 ⟨rfl,f3⟩
    have f5:=f2.trans (f3.mono f2.size)
    clear c0 c1 c2 c3 c4 hmay
    go_wp2_with fail
    go_ret3
    exact⟨f1.trans (f5.mono f1.size),.inr ⟨f,HF.out.2.1,HE9.out,by go_num⟩⟩
   rw[hm] at hst9 hmay
   simp only[if_true] at hst9
   clear hm
   go_wp2_with fail
   refine hmay.mono ?_
   rintro e wm ⟨rfl,fm⟩
   have f2m:=f2.trans (fm.mono f2.size)
   have HTM:=Lib.hid (HT.out.below fm)
   clear c0 c1 c2 c3 c4 hmay fm
   have hcs:=rCut_any x 32 (by omega) wm
   rw[show ((32:UInt8).toNat:Int)=32 from rfl,(beg_split HBG.out).1] at hcs
   have htl:∀y∈(spl 32 x).tail,y.length≤1000000:=fun y hy=>Nat.le_trans (spl_mem_len 32 x y (List.mem_of_mem_tail hy)) (by omega)
   have hsl:=spl_len 32 x
   rw[(beg_split HBG.out).1,List.length_cons] at hsl
   obtain⟨tl,htq⟩:∃y,(spl 32 x).tail=y:=⟨_,rfl⟩
   rw[htq] at hcs htl hsl hst9
   clear htq
   go_wp2_with fail
   refine hcs.mono ?_
   rintro e w2 ⟨A2,n2,c2,rfl,hown2,f3⟩
   have hrd:=hown2.rd sC_len
   have hcap2:=hown2.cap
   have hcap3:=hown2.capM
   have hn2:=hrd.1
   rw[List.length_cons] at hn2
   have hpol:=rPol_any A2 n2 c2 tl w2 hrd hcap2 hcap3 (by omega) htl
   clear hcs hown2 hrd hcap2 hcap3 hn2 htl hsl
   go_wp2_with fail
   refine hpol.mono ?_
   rintro e w3 ⟨f4,q,hq0,rfl,hqp⟩
   clear hpol
   rcases hpw:policyW tl with _|p'
   ·rw[hpw] at hst9
    have HE9:=Lib.hid (HE.out _ hst9)
    clear hst9 hqp
    have f5:=f2m.trans ((f3.trans (f4.mono f3.size)).mono f2m.size)
    go_wp2_with fail
    go_ret3
    exact⟨f1.trans ((f5.alloc f5.size _).mono f1.size),.inr ⟨i+1,by omega,HE9.out,by go_num⟩⟩
   rw[hpw] at hst9
   have hq9:=hqp p' hpw
   subst hq9
   have HN9:=Lib.hid (HN.out _ hst9)
   clear hst9 hqp
   obtain⟨w4a,hw4a⟩:∃y,w3.alloc (.cells #[.int .u64 (q.id:Int),.string (strB q.ns),.int .u64 (q.service:Int),.int .i64 q.deny,.slice none 0 0] 39)=y:=⟨_,rfl⟩
   have k4a:Blk w4a w3.heap.size 39 (poC q (.slice none 0 0)):=by rw[←hw4a];exact Blk.newAt rfl _ _
   obtain⟨z0,z1,z2,z3,z4⟩:_∧_∧_∧_∧_:=⟨k4a.frozen 0,k4a.frozen 1,k4a.frozen 2,k4a.frozen 3,k4a.frozen 4⟩
   have foa:Below wm.heap.size wm w4a:=by rw[←hw4a];exact (f3.trans (f4.mono f3.size)).alloc (by have:=f3.size;have:=f4.size;omega) _
   obtain⟨c0,c1,c2,c3,c4⟩:_∧_∧_∧_∧_:=⟨k4a.cell 0,k4a.cell 1,k4a.cell 2,k4a.cell 3,k4a.cell 4⟩
   simp only[poC,List.getElem?_cons_zero,List.getElem?_cons_succ] at c0 c1 c2 c3 c4
   go_upto_region 14 with fail
   clear c0 c1 c2 c3 c4
   refine abs (fun u=>Blk u w3.heap.size 39 (poC q (.slice none 0 0))∧Below wm.heap.size wm u) ⟨k4a.set 4 _,foa.setCell (p:=⟨w3.heap.size,4,none⟩) (by have:=f3.size;have:=f4.size;show _≤w3.heap.size;omega) _⟩ ?_
   rintro w4 ⟨k4,fo⟩
   clear z0 z1 z2 z3 z4
   obtain⟨c0,c1,c2,c3,c4⟩:_∧_∧_∧_∧_:=⟨k4.cell 0,k4.cell 1,k4.cell 2,k4.cell 3,k4.cell 4⟩
   simp only[poC,List.getElem?_cons_zero,List.getElem?_cons_succ] at c0 c1 c2 c3 c4
   have f6:=f2m.trans (fo.mono f2m.size)
   obtain⟨w5,hw5⟩:∃y,w4.alloc (.cells #[.int .u64 (q.id:Int),.string (strB q.ns),.int .u64 (q.service:Int),.int .i64 q.deny,.slice none 0 0] 39)=y:=⟨_,rfl⟩
   have f7:Below w1.heap.size w1 w5:=by rw[←hw5];exact f6.alloc f6.size _
   have fo2:Below wm.heap.size wm w5:=by rw[←hw5];exact fo.alloc fo.size _
   have hcell:∀j u,(poC q (.slice none 0 0))[j]?=some u→w5.cell? ((⟨w4.heap.size,0,none⟩:Addr).add j)=some u:=by
    rw[←hw5]
    exact fun j u hu=>new_cells w4 (poC q (.slice none 0 0)) 39 j u hu
   obtain⟨A',c',w6,hrun,hgr,K',hT9⟩:=HTM.out.pushP (p':=q) rfl fo2 f2m.size (c9:=1) hq0 hcell (by omega) 22
   replace hT9:∃K rv,Ty K w6 w1.heap.size (l++[p]) q (.slice A' (l.length+1+1) c') rv:=⟨_,_,hT9⟩
   have HQ9:=Lib.hid hT9
   have f8:Below w1.heap.size w1 w6:=f7.grown hgr f7.size (fun k hk=>(HTM.out.lt hk).1)
   have HF8:=Lib.hid f8
   subst hw5
   have HRUN:=Lib.hid hrun
   clear hrun hT9 hgr hcell foa k4a fo fo2 f6 f7 f8 k4 f3 f4
   clear hpw hq0
   go_wp2_with (refine append_run rfl rfl rfl rfl HRUN.out ?_)
   go_roundw
   case rel=>exact⟨i+1,⟨l++[p],some (q,i+1)⟩,by go_num,by omega,HN9.out.1,HN9.out.2,HF8.out,by go_num,HQ9.out⟩
   case measure=>simp[intOf];omega
  obtain rfl:np=i+1:=by omega
  have hiP:i<(spl 10 s).length:=by have:=HNP.out;omega
  obtain⟨b,off,rfl,hb,hcell⟩:=HR.out.2 (by omega)
  have g0:=(f2.cell (p:=⟨b,off+i*1+0,none⟩) hb).trans (hcell i hiP 0 _ rfl)
  rw[Nat.add_zero,Nat.mul_one] at g0
  obtain⟨x,hx⟩:∃x,(spl 10 s)[i]=x:=⟨_,rfl⟩
  have hxi:(spl 10 s)[i]?=some x:=by rw[List.getElem?_eq_getElem hiP,hx]
  replace g0:wr.cell? ⟨b,off+i,none⟩=some (.string (strB x)):=by rw[←hx];exact g0
  have b1:(0:Int)≤(i:Int):=by omega
  have b2:(i:Int)<(i:Int)+1:=by omega
  have d5:decide ((i:Int)+1<((i+1:Nat):Int))=false:=by simp
  have hPE:=fun(e:x=[])=>parse_end (i:=i) (by rw[←e];exact hxi) (by have:=HNP.out;omega) hrun
  have hPL:=fun(e:x≠[])=>parse_last (i:=i) hxi (by have:=HNP.out;omega) e hrun
  have HPS:=Lib.hid hps
  clear hx hxi hcell hrun hps
  by_cases hxe:x=[]
  ·have HPE:=Lib.hid (hPE hxe)
   subst hxe
   clear hPE hPL
   obtain⟨l,cur⟩:=st
   rcases cur with _|⟨p,f⟩
   ·obtain⟨rfl,rfl,hl0⟩:=hst
    simp only at hl0
    subst hl0
    go_wp2_with fail
    go_ret3
    exact⟨f1.trans (f2.mono f1.size),.inl ⟨[],none,0,HPE.out,rfl,RdG.nil⟩⟩
   obtain⟨rfl,K,rv,hT⟩:=hst
   have hf:=HPS.out.cur p f rfl
   obtain⟨Al,cl,hlv9,hrd9⟩:=hT.rd
   obtain⟨g,cg,cur,hlv,hcg1,hcg2,hlg,kg,hgl5,hgc⟩:=hT.last
   subst hlv
   injection hlv9 with hl1 _ hl2
   subst hl1 hl2
   have c0:=(kg.cell (l.length*5)).trans (hgc 0 (by omega))
   have c1:=(kg.cell (l.length*5+1)).trans (hgc 1 (by omega))
   have c2:=(kg.cell (l.length*5+2)).trans (hgc 2 (by omega))
   have c3:=(kg.cell (l.length*5+3)).trans (hgc 3 (by omega))
   have c4:=(kg.cell (l.length*5+4)).trans (hgc 4 (by omega))
   simp only[poC,List.getElem?_cons_zero,List.getElem?_cons_succ] at c0 c1 c2 c3 c4
   have d7:decide ((0:Int)<(f:Int))=true:=by simp;omega
   have d8:(0:Int)<(f:Int):=by omega
   have i1:(0:Int)≤(l.length:Int):=by omega
   have i2:(l.length:Int)<(l.length:Int)+1:=by omega
   have hmay:Calls Tryz.prog 20 #[.agg #[.int .u64 (p.id:Int),.string (strB p.ns),.int .u64 (p.service:Int),.int .i64 p.deny,rv]] wr fun e w'=>e=.returned (.bool (poMay p))∧Below wr.heap.size wr w':=rmay12_any p (poC p rv) wr hT.po (hf.1.ok (by omega))
   have HRD9:=Lib.hid hrd9;have HF:=Lib.hid hf
   have hnl:l.length≤i:=by have:=HPS.out.len;simp only at this;omega
   clear hgc hgl5 hcg1 hcg2 kg hT hf hrd9 HPS
   have hfin:finP ⟨l,some (p,f)⟩=if poMay p=true then .ok (l++[p]) else .error f:=rfl
   rcases hm:poMay p with _|_
   ·rw[hm] at hfin hmay
    have HPF:=Lib.hid (HPE.out.trans hfin)
    clear hfin hm
    go_wp2_with fail
    refine hmay.mono ?_
    rintro e w2 ⟨rfl,f3⟩
    have f5:=f2.trans (f3.mono f2.size)
    clear c0 c1 c2 c3 c4 hmay
    go_wp2_with fail
    go_ret3
    exact⟨f1.trans (f5.mono f1.size),.inr ⟨f,HF.out.2.1,HPF.out,by go_num⟩⟩
   rw[hm] at hfin hmay
   have HPF:=Lib.hid (HPE.out.trans hfin)
   clear hfin hm
   go_wp2_with fail
   refine hmay.mono ?_
   rintro e w2 ⟨rfl,f3⟩
   have f5:=f2.trans (f3.mono f2.size)
   clear c0 c1 c2 c3 c4 hmay
   go_wp2_with fail
   go_ret3
   exact⟨f1.trans (f5.mono f1.size),.inl ⟨l++[p],_,_,HPF.out,by rw[List.length_append,List.length_singleton];go_num,by rw[List.length_append,List.length_singleton];exact HRD9.out.mono f3.size f3 fun _ _ h=>PoP.mono h f3.size f3⟩⟩
  have HPL:=Lib.hid (hPL hxe)
  have hq:(x==[])=false:=beq_eq_false_iff_ne.2 hxe
  have hq2:x.isEmpty=false:=by cases x with|nil=>exact absurd rfl hxe|cons a b=>rfl
  clear hPE hPL hst
  go_wp2_with fail
  go_ret3
  exact⟨f1.trans (f2.mono f1.size),.inr ⟨i+1,by omega,HPL.out,by go_num⟩⟩
end Go.Proofs.YtpcdmbajfmnoiaaGreatDoor
