/- syntax.text's line, by what its parts come to. Conditions: lines of a million bytes at most; the library's variables hold what they should. syntax.text's line: a rule's. Conditions: the library's variables hold what they should. syntax.text's line: what it leaves. Conditions: bounds; the library's variables hold what they should. -/
import Derived.Test.YtpcdmbajfmnoiaaGreatDoorSynPartAll
import Derived.Lib.SplitLaws
import Derived.Test.YtpcdmbajfmnoiaaGreatDoorSynParseAll
namespace Go.Proofs.YtpcdmbajfmnoiaaGreatDoor
set_option linter.unusedVariables false
set_option linter.unusedSimpArgs false
open Go.RowKit Go.Sort
theorem split32(l:List UInt8)(w:World)(hW:LdW w)(hl:l.length≤1000000) :
  Calls Tryz.prog 53 #[.string (strB l),.string ⟨#[32]⟩] w fun e w'=>e=.returned (.slice (some ⟨w.heap.size,0,none⟩) (spl 32 l).length (spl 32 l).length)∧w'=w.alloc (.cells ((spl 32 l).map fun s=>Value.string (strB s)).toArray 9):=by
 obtain⟨m,hm⟩:=hW.max
 refine (strings_Split (strB l) ⟨#[32]⟩ m w (by rw[strB_size];omega) hm (by decide)).mono ?_
 rintro e w' ⟨rfl,rfl⟩
 have hd:(Lib.splitB ⟨#[32]⟩ 0 (Lib.countB (strB l) ⟨#[32]⟩) (strB l)).map (·.data.toList)=Lib.split l [32]:=by
  rw[Lib.splitB_data]
  show Lib.splitK [32] 0 (Lib.count (strB l).data.toList [32]) (strB l).data.toList=_
  simp only[strB]
  rfl
 have hlen:=Lib.splitB_all ⟨#[32]⟩ (by decide) 0 _ (strB l) rfl
 generalize Lib.splitB ⟨#[32]⟩ 0 (Lib.countB (strB l) ⟨#[32]⟩) (strB l)=S at *
 generalize Lib.countB (strB l) ⟨#[32]⟩=q at *
 rw[split_spl] at hd
 have hq:q+1=(spl 32 l).length:=by rw[←hd,List.length_map,hlen]
 refine⟨by rw[hq],?_⟩
 rw[←hd,List.map_map]
 rfl
def lnW(w:World)(ws:List (List UInt8)):World :=
 (w.alloc (.cells (ws.map fun s=>Value.string (strB s)).toArray 9)).alloc (.cells #[.slice (some ⟨w.heap.size,0,none⟩) ws.length ws.length,.bool false] 98)
theorem lnW_below(w:World)(ws:List (List UInt8)):Below w.heap.size w (lnW w ws):=((Below.refl _ w).alloc (Nat.le_refl _) _).alloc (by simp) _
theorem lnW_size(w:World)(ws:List (List UInt8)):(lnW w ws).heap.size=w.heap.size+2:=by simp[lnW]
theorem lnW_wd(w:World)(ws:List (List UInt8))(hs:ws.length≤maxLen):Wd (lnW w ws) w.heap.size (w.heap.size+1) (w.heap.size+1) ws false:=by
 have hb:Blk (lnW w ws) (w.heap.size+1) 98 [.slice (some ⟨w.heap.size,0,none⟩) ws.length ws.length,.bool false]:=Blk.newAt (by simp) 98 #[.slice (some ⟨w.heap.size,0,none⟩) ws.length ws.length,.bool false]
 have hr:Blk (lnW w ws) w.heap.size 9 (ws.map fun s=>Value.string (strB s)):=Blk.alloc (Blk.newAt rfl 9 (ws.map fun s=>Value.string (strB s)).toArray) _
 refine⟨⟨by omega,by rw[lnW_size];omega⟩,_,ws.length,ws.length,hb,Nat.le_refl _,hs,rfl,fun _=>⟨w.heap.size,0,rfl,by omega,fun j hj i v hv=>?_⟩⟩
 have hi:i=0:=by
  have:=(List.getElem?_eq_some_iff.1 hv).1
  simp only[sC,List.length_cons,List.length_nil] at this
  omega
 subst hi
 have hv2:v=.string (strB ws[j]):=by simpa [sC] using hv.symm
 subst hv2
 rw[show 0+j*1+0=j by omega]
 refine mineW_of ?_ (Nat.le_refl _) (fun e=>by injection e with e;simp at e) hr
 rw[hr.cell,List.getElem?_map,List.getElem?_eq_getElem hj,Option.map_some]
theorem w4_s:(⟨#[32,32,32,32]⟩:ByteArray)=strB w4:=rfl
theorem trim_no{x:List UInt8}(h:w4.isPrefixOf x=false):Lib.trimPrefix x w4=x:=by
 unfold Lib.trimPrefix Lib.hasPrefix
 rw[h];rfl
theorem trim_yes{x:List UInt8}(h:w4.isPrefixOf x=true):Lib.trimPrefix x w4=x.drop 4:=by
 unfold Lib.trimPrefix Lib.hasPrefix
 rw[h];rfl
def BoxP(bw:Nat)(Q:Bool→World→Prop)(e:Ending)(w':World):Prop:=∃(ws':List (List UInt8)) (b:Bool) (A:Option Addr) (c:Nat),e=.returned (.tuple #[])∧Blk w' bw 98 [.slice A ws'.length c,.bool b]∧Q (!(b|| !ws'.isEmpty)) w'
set_option maxRecDepth 100000 in
set_option maxHeartbeats 4000000 in
theorem line_deep(bt:Nat)(k:Int)(x:List UInt8)(w:World)(hW:LdW w)(hl:x.length≤1000000)(hd:w4.isPrefixOf x=true)(Q:Bool→World→Prop)
  (hp:Calls Tryz.prog 54 #[.pointer (some ⟨bt,0,none⟩),.pointer (some ⟨w.heap.size+1,0,none⟩)] (lnW w (spl 32 (x.drop 4))) (BoxP (w.heap.size+1) Q)) :
  Calls Tryz.prog 28 #[.pointer (some ⟨bt,0,none⟩),.int .i64 k,.string (strB x)] w fun e w'=>∃ok,e=.returned (.bool ok)∧Q ok w':=by
 have hsp:=split32 (x.drop 4) w hW (by rw[List.length_drop];omega)
 have hcp:=cp_any x w4 w
 rw[hd,trim_yes hd] at hcp
 have HP:=Lib.hid hp;clear hp
 go_enter Tryz.func28,Tryz.ntmps28
 go_wp2_with fail
 rw[w4_s]
 refine hcp.mono ?_
 rintro e w' ⟨rfl,rfl⟩
 go_wp2_with fail
 refine hsp.mono ?_
 rintro e w' ⟨rfl,rfl⟩
 go_wp2_with fail
 refine HP.out.mono ?_
 rintro e w3 ⟨ws',b,A,c,rfl,hb,hq⟩
 have x0:w3.cell? ⟨w.heap.size+1,0,none⟩=some (.slice A ws'.length c):=hb.cell 0
 have x1:w3.cell? ⟨w.heap.size+1,1,none⟩=some (.bool b):=hb.cell 1
 clear hb HP hsp hcp
 rcases b with _|_
 ·rcases ws' with _|⟨s0,r0⟩
  ·go_wp2_with fail
   go_ret
   exact⟨_,rfl,hq⟩
  have h1:(((r0.length:Int)+1)==0)=false:=by rw[beq_eq_false_iff_ne];omega
  simp only[List.length_cons] at x0
  go_wp2_with fail
  go_ret
  exact⟨_,rfl,hq⟩
 go_wp2_with fail
 go_ret
 exact⟨_,rfl,by simpa using hq⟩
theorem wPolicy_s:(⟨#[112,111,108,105,99,121]⟩:ByteArray)=strB wPolicy:=rfl
theorem len_beq{α:Type}(r:List α):(((r.length:Int)+1)==0)=false:=by rw[beq_eq_false_iff_ne];omega
set_option maxRecDepth 100000 in
set_option maxHeartbeats 4000000 in
theorem line_pol(bt:Nat)(k:Int)(x:List UInt8)(w:World)(hW:LdW w)(hl:x.length≤1000000)(hd:w4.isPrefixOf x=false)(hr:x≠wRule)(hi:isW (spl 32 x) wPolicy=true)(Q:Bool→World→Prop)
  (hp:∀u,Wd u w.heap.size (w.heap.size+1) (w.heap.size+1) (spl 32 x).tail false→Off (fun b=>b=w.heap.size+1) (lnW w (spl 32 x)) u→Calls Tryz.prog 56 #[.pointer (some ⟨bt,0,none⟩),.int .i64 k,.pointer (some ⟨w.heap.size+1,0,none⟩)] u (BoxP (w.heap.size+1) Q)) :
  Calls Tryz.prog 28 #[.pointer (some ⟨bt,0,none⟩),.int .i64 k,.string (strB x)] w fun e w'=>∃ok,e=.returned (.bool ok)∧Q ok w':=by
 have hsp:=split32 x w hW hl
 have hcp:=cp_any x w4 w
 rw[hd,trim_no hd] at hcp
 have hne:=strB_ne hr
 have hml:(spl 32 x).length≤maxLen:=by have:=spl_len 32 x;unfold maxLen;omega
 have his:=is_true w.heap.size (w.heap.size+1) (w.heap.size+1) false (spl 32 x) wPolicy _ (lnW_wd w (spl 32 x) hml) hi
 have HP:=Lib.hid hp;clear hp
 obtain⟨sx,hsx⟩:∃y,strB x=y:=⟨_,rfl⟩
 obtain⟨sr,hsr⟩:∃y,strB wRule=y:=⟨_,rfl⟩
 rw[hsx] at hsp hcp hne ⊢
 rw[hsr] at hne
 have hsr':(⟨#[32,32,114,117,108,101]⟩:ByteArray)=sr:=hsr
 go_enter Tryz.func28,Tryz.ntmps28
 rw[hsr',w4_s,wPolicy_s]
 go_wp2_with fail
 refine hcp.mono ?_
 rintro e w' ⟨rfl,rfl⟩
 go_wp2_with fail
 refine hsp.mono ?_
 rintro e w' ⟨rfl,rfl⟩
 go_wp2_with fail
 refine his.mono ?_
 rintro e u ⟨rfl,hwd,hoff⟩
 have hpu:=HP.out u hwd hoff
 clear hwd hoff his hsp hcp hne HP
 go_wp2_with fail
 refine hpu.mono ?_
 rintro e w3 ⟨ws',b,A,c,rfl,hb,hq⟩
 have x0:w3.cell? ⟨w.heap.size+1,0,none⟩=some (.slice A ws'.length c):=hb.cell 0
 have x1:w3.cell? ⟨w.heap.size+1,1,none⟩=some (.bool b):=hb.cell 1
 clear hb hpu
 rcases b with _|_
 ·rcases ws' with _|⟨s0,r0⟩
  ·go_wp2_with fail
   go_ret
   exact⟨_,rfl,hq⟩
  have h1:=len_beq r0
  simp only[List.length_cons] at x0
  go_wp2_with fail
  go_ret
  exact⟨_,rfl,hq⟩
 go_wp2_with fail
 go_ret
 exact⟨_,rfl,by simpa using hq⟩
set_option maxRecDepth 100000 in
set_option maxHeartbeats 4000000 in
theorem line_no(bt:Nat)(k:Int)(x:List UInt8)(w:World)(hW:LdW w)(hl:x.length≤1000000)(hd:w4.isPrefixOf x=false)(hr:x≠wRule∨w.cell? ⟨bt,1,none⟩=some (.bool false))(hbt:bt<w.heap.size)(hi:isW (spl 32 x) wPolicy=false) :
  Calls Tryz.prog 28 #[.pointer (some ⟨bt,0,none⟩),.int .i64 k,.string (strB x)] w fun e w'=>e=.returned (.bool false)∧w'=lnW w (spl 32 x):=by
 have hsp:=split32 x w hW hl
 have hcp:=cp_any x w4 w
 rw[hd,trim_no hd] at hcp
 have hml:(spl 32 x).length≤maxLen:=by have:=spl_len 32 x;unfold maxLen;omega
 have his:=is_false w.heap.size (w.heap.size+1) (w.heap.size+1) false (spl 32 x) wPolicy _ (lnW_wd w (spl 32 x) hml) hi
 obtain⟨sx,hsx⟩:∃y,strB x=y:=⟨_,rfl⟩
 obtain⟨sr,hsr⟩:∃y,strB wRule=y:=⟨_,rfl⟩
 have hsr':(⟨#[32,32,114,117,108,101]⟩:ByteArray)=sr:=hsr
 by_cases hx:x=wRule
 ·have e1:(lnW w (spl 32 x)).cell? ⟨bt,1,none⟩=some (.bool false):=(World.cell?_of_block (a:=⟨bt,1,none⟩) ((lnW_below w (spl 32 x)).block bt hbt)).trans (hr.resolve_left fun h=>h hx)
  rw[hsx] at hsp hcp ⊢
  have hss:sx=sr:=by rw[←hsx,hx,hsr]
  have heq:(sx.toList==sr.toList)=true:=by rw[hss];simp
  clear hss hx hr hi
  go_enter Tryz.func28,Tryz.ntmps28
  rw[hsr',w4_s,wPolicy_s]
  go_wp2_with fail
  refine hcp.mono ?_
  rintro e w' ⟨rfl,rfl⟩
  go_wp2_with fail
  refine hsp.mono ?_
  rintro e w' ⟨rfl,rfl⟩
  unfold lnW at e1
  go_wp2_with fail
  refine his.mono ?_
  rintro e u ⟨rfl,rfl⟩
  clear his hsp hcp heq
  go_wp2_with fail
  go_ret
  exact⟨rfl,rfl⟩
 have hne:=strB_ne hx
 rw[hsx] at hsp hcp hne ⊢
 rw[hsr] at hne
 go_enter Tryz.func28,Tryz.ntmps28
 rw[hsr',w4_s,wPolicy_s]
 go_wp2_with fail
 refine hcp.mono ?_
 rintro e w' ⟨rfl,rfl⟩
 go_wp2_with fail
 refine hsp.mono ?_
 rintro e w' ⟨rfl,rfl⟩
 go_wp2_with fail
 refine his.mono ?_
 rintro e u ⟨rfl,rfl⟩
 clear his hsp hcp hne
 go_wp2_with fail
 go_ret
 exact⟨rfl,rfl⟩
theorem append_run{P:Program}{ops:Array Oper}{rest:List Oper}{o:Oper}{a:Act}{Q:Exit→Act→World→Prop}{w w':World}{s x:Operand}{t:TypeId}{v1 v2 v':Value}(hgd:o.guard=none)(ho:o.op=.call { callee:=.builtin .append,args:=#[s,x],argTypes:=#[t,t] })(hs:a.eval s=v1)(hx:a.eval x=v2)
  (hrun:(Builtin.append_ #[t,t] o.type #[v1,v2]).run P w=.ok v' w') (h:wpList P ops Q rest (a.put o.dst v') w'):wpList P ops Q (o::rest) a w :=
 wpList_plain hgd fun _ hK=>wp_append_run ho hs hx hrun (hK _ _ h)
set_option maxRecDepth 100000 in
set_option maxHeartbeats 4000000 in
theorem line_rule(K X:Nat→Bool)(lo bt:Nat)(f k:Int)(l:List Po)(p:Po)(lv rv:Value)(w:World)(hW:LdW w)(h:Tx K X w lo bt true f l p lv rv)(hlo:lo≤w.heap.size)(hn:p.rules.length<900000) :
  Calls Tryz.prog 28 #[.pointer (some ⟨bt,0,none⟩),.int .i64 k,.string (strB wRule)] w fun e w'=>e=.returned (.bool true)∧FrT X lo w w'∧∃K' rv',Tx K' X w' lo bt true f l { p with rules:=p.rules++[ru0] } lv rv':=by
 have hsp:=split32 wRule w hW (by decide)
 have hcp:=cp_any wRule w4 w
 rw[show w4.isPrefixOf wRule=false by decide,trim_no (by decide)] at hcp
 obtain⟨A,n,c,hrv,_,_,hnr⟩:=h.rules.rvv
 have hpn:p.rules.length=n:=hnr.1
 clear hnr
 obtain⟨xs,hxs⟩:∃xs,spl 32 wRule=xs:=⟨_,rfl⟩
 rw[hxs] at hsp
 have hbl:=h.q.box.lt
 have hS:=h.q.box
 have hB:=lnW_below w xs
 have hbw:Blk (lnW w xs) bt 63 _:=(hB.block bt hbl).trans hS
 obtain⟨e0,e1,e2,e3,e4,e5,e6,e7⟩:=BxT.of hbw
 have wx_b:Below w.heap.size w ((lnW w xs).alloc (.cells #[.slice none 0 0,.slice none 0 0,.slice none 0 0] 50)):=hB.alloc hB.size _
 obtain⟨A',c',w',hrun,hg,hnb,hfin⟩:=h.push hrv wx_b (ad:=⟨w.heap.size+1+1,0,none⟩) (c9:=1) hlo (fun j u hu=>by
  have hsz:w.heap.size+1+1=(lnW w xs).heap.size:=by simp[lnW]
  rw[hsz]
  exact new_cells (lnW w xs) [.slice none 0 0,.slice none 0 0,.slice none 0 0] 50 j u hu) (by omega) 37
 have hbt:w'.heap[bt]?=w.heap[bt]?:=(hg.block bt (Nat.lt_of_lt_of_le hbl wx_b.size) (fun e=>hnb bt e.symm rfl)).trans (wx_b.block bt hbl)
 have hb':Blk w' bt 63 _:=hbt.trans hS
 have g6:=hb'.cell 6
 have f6:=hb'.frozen 6
 have ho:∀v,Off (fun b=>b=bt) w' (w'.setCell ⟨bt,6,none⟩ v):=fun v=>(Off.refl (fun b=>b=bt) w').setCell (p:=⟨bt,6,none⟩) (fun _=>rfl) v
 obtain⟨K',ht,hf⟩:=hfin (w'.setCell ⟨bt,6,none⟩ (.slice A' (n+1) c')) (ho _) (hb'.set 6 _)
 have HF:=Lib.hid (show FrT X lo w (w'.setCell ⟨bt,6,none⟩ (.slice A' (n+1) c'))∧∃K' rv',Tx K' X (w'.setCell ⟨bt,6,none⟩ (.slice A' (n+1) c')) lo bt true f l { p with rules:=p.rules++[ru0] } lv rv' from ⟨hf,K',_,ht⟩)
 subst hrv
 obtain⟨sr,hsr⟩:∃y,strB wRule=y:=⟨_,rfl⟩
 have hsr':(⟨#[32,32,114,117,108,101]⟩:ByteArray)=sr:=hsr
 have heq:(sr.toList==sr.toList)=true:=by simp
 rw[hsr] at hsp hcp ⊢
 clear h hS hB hbw wx_b hg hnb hfin hbt hb' ho ht hf e0 e2 e3 e4 e5 e7
 unfold lnW at e1 e6 hrun
 go_enter Tryz.func28,Tryz.ntmps28
 rw[hsr',w4_s,wPolicy_s]
 go_wp2_with fail
 refine hcp.mono ?_
 rintro e w' ⟨rfl,rfl⟩
 go_wp2_with fail
 refine hsp.mono ?_
 rintro e w' ⟨rfl,rfl⟩
 go_wp2_with (at_builtin;go_must (refine append_run rfl rfl rfl rfl hrun ?_))
 go_ret
 exact⟨rfl,HF.out⟩
section
variable {K X X0:Nat→Bool} {lo bt:Nat} {w w':World} {bg:Bool} {f:Int} {l:List Po} {p:Po} {lv rv c2 c3 c4 c5 c6:Value}
theorem Sep.less{v:Value}(h:Sep K X v)(hX:∀b,X0 b=true→X b=true):Sep K X0 v:=fun b hb=>⟨(h b hb).1,by
 cases hx:X0 b with
 | false=>rfl
 | true=>have:=(h b hb).2;rw[hX b hx] at this;cases this⟩
theorem lessF(hX:∀b,X0 b=true→X b=true){b:Nat}(h:X b=false):X0 b=false:=by
 cases hx:X0 b with
 | false=>rfl
 | true=>rw[hX b hx] at h;cases h
theorem Tq.less(h:Tq K X w lo bt bg f l lv c2 c3 c4 c5 c6)(hX:∀b,X0 b=true→X b=true):Tq K X0 w lo bt bg f l lv c2 c3 c4 c5 c6 :=
 ⟨h.box,h.lob,h.kb,lessF hX h.xb,fun b hb=>⟨(h.kk b hb).1,(h.kk b hb).2.1,lessF hX (h.kk b hb).2.2⟩,fun b hb=>h.xx b (hX b hb),h.row,h.sep.less hX⟩
theorem RuX.less{v1 v2 v3:Value}{r:Ru}(h:RuX K X w lo v1 v2 v3 r)(hX:∀b,X0 b=true→X b=true):RuX K X0 w lo v1 v2 v3 r :=
 ⟨⟨h.1.1,h.1.2.less hX⟩,⟨h.2.1.1,h.2.1.2.less hX⟩,⟨h.2.2.1,h.2.2.2.less hX⟩⟩
theorem Tx.less(h:Tx K X w lo bt bg f l p lv rv)(hX:∀b,X0 b=true→X b=true):Tx K X0 w lo bt bg f l p lv rv:=by
 refine⟨h.q.less hX,?_⟩
 rcases h.rules with h0|⟨R0,r,css,v1,v2,v3,h1,h2,h3,h4,h5,h6,h7⟩
 ·exact .inl h0
 exact .inr ⟨R0,r,css,v1,v2,v3,h1,h2,h3,h4,h5,h6.less hX,h7.less hX⟩
end
theorem pol7_eq:wPol7=wPolicy++[32]:=rfl
theorem isW_iff{ws:List (List UInt8)}{word:List UInt8}:isW ws word=true↔ws.head?=some word:=by unfold isW;simp
theorem spl_head{c:UInt8}(x r:List UInt8)(h:c∉x):spl c (x++c::r)=x::spl c r:=spl_app r h
theorem begP_is{x:List UInt8}(h:begP x=true):isW (spl 32 x) wPolicy=true∧w4.isPrefixOf x=false∧x≠wRule:=by
 obtain⟨t,ht⟩:=List.isPrefixOf_iff_prefix.1 h
 subst ht
 refine⟨isW_iff.2 ?_,rfl,fun e=>by injection e with e _;cases e⟩
 rw[pol7_eq,List.append_assoc,List.singleton_append,spl_head _ _ (by decide)]
 rfl
theorem not_begP{x:List UInt8}(h:begP x=false)(hi:isW (spl 32 x) wPolicy=true):x=wPolicy:=by
 rw[isW_iff] at hi
 by_cases hm:(32:UInt8)∈x
 ·obtain⟨a,b,rfl,ha⟩:∃a b,x=a++32::b∧(32:UInt8)∉a:=by
   have:=List.append_of_mem hm
   clear h hi
   induction x with
   | nil=>cases hm
   | cons y x ih =>
    by_cases hy:y=32
    ·subst hy;exact⟨[],x,rfl,by simp⟩
    have hm':(32:UInt8)∈x:=by rcases List.mem_cons.1 hm with e|e;exact absurd e.symm hy;exact e
    obtain⟨a,b,rfl,ha⟩:=ih hm' (List.append_of_mem hm')
    exact⟨y::a,b,rfl,by simp[ha,Ne.symm hy]⟩
  rw[spl_head _ _ ha] at hi
  injection hi with hi
  subst hi
  exfalso
  have:begP (wPolicy++32::b)=true:=List.isPrefixOf_iff_prefix.2 ⟨b,by rw[pol7_eq];simp⟩
  rw[this] at h
  cases h
 rw[spl_no hm] at hi
 injection hi
theorem lnW_off(w:World)(ws:List (List UInt8))(Y:Nat→Prop):Off Y w (lnW w ws):=(Off.of_all (lnW_below w ws)).mono fun _ _ h=>h.elim
section
variable {K X:Nat→Bool} {lo bt:Nat} {w:World} {bg:Bool} {f k:Int} {l:List Po} {p:Po} {lv rv c2 c3 c4 c5 c6:Value} {x:List UInt8}
theorem LdW.ln(h:LdW w)(ws:List (List UInt8)):LdW (lnW w ws):=h.below h.lt (lnW_below w ws)
theorem words_len{B:Nat}{x:List UInt8}(h:x.length≤B):∀s∈spl 32 x,s.length≤B:=fun s hs=>Nat.le_trans (spl_mem_len 32 x s hs) h
theorem line_policy(h:Tq K X w lo bt bg f l lv c2 c3 c4 c5 c6)(hW:LdW w)(hlo:lo≤w.heap.size)(hg:7<lo)(hl:x.length≤1000000)(hd:w4.isPrefixOf x=false)(hr:x≠wRule)(hi:isW (spl 32 x) wPolicy=true) :
  Calls Tryz.prog 28 #[.pointer (some ⟨bt,0,none⟩),.int .i64 k,.string (strB x)] w fun e w'=>∃ok,e=.returned (.bool ok)∧ok=(policyO (spl 32 x).tail).isSome∧FrT X lo w w'∧∀p,policyO (spl 32 x).tail=some p→∃K',Tx K' X w' lo bt true k l p lv (.slice none 0 0):=by
 have hbl:=h.box.lt
 have hlob:=h.lob
 refine line_pol bt k x w hW hl hd hr hi (fun ok w'=>ok=(policyO (spl 32 x).tail).isSome∧FrT X lo w w'∧∀p,policyO (spl 32 x).tail=some p→∃K',Tx K' X w' lo bt true k l p lv (.slice none 0 0)) fun u hwd hoff=>?_
 have hbu:Blk u bt 63 [lv,.bool bg,c2,c3,c4,c5,c6,.int .i64 f]:=Blk.off ((lnW_below w _).block bt hbl |>.trans h.box) hoff (by omega)
 have hsz:w.heap.size+2≤u.heap.size:=by have:=hoff.size;rw[lnW_size] at this;exact this
 have hwu:Off (fun b=>b=w.heap.size+1) w u:=(lnW_off w (spl 32 x) _).trans hoff fun _ _ h=>h
 refine (policy_any w.heap.size (w.heap.size+1) (w.heap.size+1) bt (spl 32 x).tail u lv k bg c2 c3 c4 c5 c6 (.int .i64 f) ⟨hbu,hwd,Off.refl _ u⟩ (hW.offW hW.lt (by omega) (Nat.le_refl _) hwu) hW.lt (by omega) hbl (by omega) fun s hs=>words_len hl s (List.mem_of_mem_tail hs)).mono ?_
 rintro e w' ⟨p,r,b,rfl,hp,hpr,hb,hq⟩
 obtain⟨A,c,hbk,_⟩:=hp.wd.box
 have ho:Off (fun b=>b=bt) w w':=((hwu.mono fun b _ h=>Or.inr h:Off (fun b=>b=bt∨b=w.heap.size+1) w u).trans hp.off fun b _ h=>h) |>.mono fun b hb h=>by
  rcases h with h|h
  ·exact h
  omega
 refine⟨r,b,A,c,rfl,hbk,by rw[hb];cases policyO (spl 32 x).tail<;>rfl,FrT.off ho fun b hb _=>?_,fun q hq'=>?_⟩
 ·rw[show b=bt from hb]
  exact⟨hlob,h.xb,_,_,_,h.box⟩
 rw[hq q hq']
 exact⟨K,h.put ho hp.box,.inl ⟨hpr,rfl⟩⟩
theorem line_none(h:Tq K X w lo bt false f l lv c2 c3 c4 c5 c6)(hW:LdW w)(hlo:lo≤w.heap.size)(hg:7<lo)(hl:x.length≤1000000)(hb:begP x=false) :
  Calls Tryz.prog 28 #[.pointer (some ⟨bt,0,none⟩),.int .i64 k,.string (strB x)] w fun e w'=>e=.returned (.bool false)∧FrT X lo w w':=by
 have hbl:=h.box.lt
 have hlob:=h.lob
 rcases hd:w4.isPrefixOf x with _|_
 ·rcases hi:isW (spl 32 x) wPolicy with _|_
  ·refine (line_no bt k x w hW hl hd (.inr (h.box.cell 1)) hbl hi).mono ?_
   rintro e w' ⟨rfl,rfl⟩
   exact⟨rfl,FrT.of_below (lnW_below w _)⟩
  obtain rfl:=not_begP hb hi
  refine (line_policy (x:=wPolicy) h hW hlo hg (by decide) hd (by decide) hi).mono ?_
  rintro e w' ⟨ok,rfl,hok,hf,_⟩
  refine⟨by rw[hok];rfl,hf⟩
 have hml:(spl 32 (x.drop 4)).length≤maxLen:=by have:=spl_len 32 (x.drop 4);rw[List.length_drop] at this;unfold maxLen;omega
 have hwd:=lnW_wd w (spl 32 (x.drop 4)) hml
 refine (line_deep bt k x w hW hl hd (fun ok w'=>ok=false∧FrT X lo w w') ?_).mono fun e w' ⟨ok,h1,h2,h3⟩=>⟨by rw[h1,h2],h3⟩
 refine (part_none0 bt (w.heap.size+1) w.heap.size (w.heap.size+1) lv c2 c3 c4 c5 c6 f (spl 32 (x.drop 4)) (lnW w (spl 32 (x.drop 4))) (((lnW_below w _).block bt hbl).trans h.box) hwd).mono ?_
 rintro e w' ⟨rfl,rfl⟩
 obtain⟨A,c,hbk,_⟩:=hwd.box
 exact⟨_,true,A,c,rfl,hbk.set 1 _,rfl,(FrT.of_below (lnW_below w _)).trans (FrT.off ((Off.refl (fun b=>b=w.heap.size+1) (lnW w (spl 32 (x.drop 4)))).setCell (p:=⟨w.heap.size+1,1,none⟩) (fun _=>rfl) _) fun b hb _=>by
  rw[show b=w.heap.size+1 from hb]
  refine⟨by omega,?_,_,_,_,hbk⟩
  cases hx:X (w.heap.size+1) with
  | false=>rfl
  | true=>have:=h.xx _ hx;omega)⟩
theorem part_any(K X X0:Nat→Bool)(lo bt:Nat)(f:Int)(l:List Po)(p:Po)(R0:List Ru)(r:Ru)(lv rv:Value)(M B bw:Nat)(ws:List (List UInt8))(w:World)(hp:PaS K X X0 lo bt f l p lv rv M B bw ws false w w)(hR:p.rules=R0++[r])(hl:∀s∈ws,s.length≤1000000)(hbt:bt≠bw)(hBs:B≤w.heap.size)(hM:M≤w.heap.size)(hn:R0.length<900000)(hf:r.froms.length<900000)(ht:r.tos.length<900000)(hw:r.whens.length<900000) :
  Calls Tryz.prog 54 #[.pointer (some ⟨bt,0,none⟩),.pointer (some ⟨bw,0,none⟩)] w fun e w'=>PartP X X0 lo bt f l p R0 r lv rv M B bw ws w e w':=by
 rcases h1:isW ws wFrom with _|_
 ·rcases h2:isW ws wTo with _|_
  ·rcases h3:isW ws wWhen with _|_
   ·exact part_D K X X0 lo bt f l p R0 r lv rv M B bw ws w hp hR hl hbt hBs hM hn hf ht hw h1 h2 h3
   by_cases h4:ws.tail=[]
   ·exact part_W0 K X X0 lo bt f l p R0 r lv rv M B bw ws w hp hR hl hbt hBs hM hn hf ht hw h1 h2 h3 h4
   exact part_W K X X0 lo bt f l p R0 r lv rv M B bw ws w hp hR hl hbt hBs hM hn hf ht hw h1 h2 h3 h4
  exact part_T K X X0 lo bt f l p R0 r lv rv M B bw ws w hp hR hl hbt hBs hM hn hf ht hw h1 h2
 exact part_F K X X0 lo bt f l p R0 r lv rv M B bw ws w hp hR hl hbt hBs hM hn hf ht hw h1
theorem line_cont(h:Tx K X w lo bt true f l p lv rv)(hW:LdW w)(hlo:lo≤w.heap.size)(hg:7<lo)(hl:x.length≤1000000)(hb:begP x=false)(hok:okPoN 800000 p) :
  Calls Tryz.prog 28 #[.pointer (some ⟨bt,0,none⟩),.int .i64 k,.string (strB x)] w fun e w'=>∃ok,e=.returned (.bool ok)∧ok=(contO x p).isSome∧FrT X lo w w'∧∀p',contO x p=some p'→∃K' rv',Tx K' X w' lo bt true f l p' lv rv':=by
 have hbl:=h.q.box.lt
 have hlob:=h.q.lob
 have hX1:X (w.heap.size+1)=false:=by
  cases hx:X (w.heap.size+1) with
  | false=>rfl
  | true=>have:=h.q.xx _ hx;omega
 rcases hd:w4.isPrefixOf x with _|_
 ·by_cases hr:x=wRule
  ·subst hr
   have hc:contO wRule p=some { p with rules:=p.rules++[ru0] }:=by unfold contO;rw[if_neg (by decide),if_pos rfl]
   refine (line_rule K X lo bt f k l p lv rv w hW h hlo (by have:=hok.len;omega)).mono ?_
   rintro e w' ⟨rfl,hf,K',rv',ht⟩
   refine⟨true,rfl,by rw[hc];rfl,hf,fun p' hp'=>?_⟩
   rw[hc] at hp'
   injection hp' with hp'
   subst hp'
   exact⟨K',rv',ht⟩
  have hc:contO x p=none:=by unfold contO;rw[hd,if_neg (by decide),if_neg hr]
  rcases hi:isW (spl 32 x) wPolicy with _|_
  ·refine (line_no bt k x w hW hl hd (.inl hr) hbl hi).mono ?_
   rintro e w' ⟨rfl,rfl⟩
   exact⟨false,rfl,by rw[hc];rfl,FrT.of_below (lnW_below w _),fun p' hp'=>by rw[hc] at hp';cases hp'⟩
  obtain rfl:=not_begP hb hi
  refine (line_policy (x:=wPolicy) h.q hW hlo hg (by decide) hd hr hi).mono ?_
  rintro e w' ⟨ok,rfl,hok,hf,_⟩
  exact⟨ok,rfl,by rw[hok,hc];rfl,hf,fun p' hp'=>by rw[hc] at hp';cases hp'⟩
 have hml:(spl 32 (x.drop 4)).length≤maxLen:=by have:=spl_len 32 (x.drop 4);rw[List.length_drop] at this;unfold maxLen;omega
 have hwd:=lnW_wd w (spl 32 (x.drop 4)) hml
 obtain⟨ws,hws⟩:∃ws,spl 32 (x.drop 4)=ws:=⟨_,rfl⟩
 have hwl:∀s∈ws,s.length≤1000000:=by rw[←hws];exact words_len (by rw[List.length_drop];omega)
 refine (line_deep bt k x w hW hl hd (fun ok w'=>ok=(contO x p).isSome∧FrT X lo w w'∧∀p',contO x p=some p'→∃K' rv',Tx K' X w' lo bt true f l p' lv rv') ?_)
 rw[hws] at hwd ⊢
 have hfb:FrT X lo w (lnW w ws):=FrT.of_below (lnW_below w ws)
 rcases List.eq_nil_or_concat p.rules with h0|⟨R0,r,h0⟩
 ·have hc:contO x p=none:=by unfold contO;rw[hd,if_pos rfl,h0];rfl
  obtain⟨A6,n6,c6,hrv,_,_,hn6⟩:=h.rules.rvv
  have:n6=0:=by have:=hn6.1;rw[h0] at this;exact this.symm
  subst this hrv
  refine (part_none1 bt (w.heap.size+1) w.heap.size (w.heap.size+1) lv _ _ _ _ (.bool false) f A6 c6 ws (lnW w ws) (((lnW_below w _).block bt hbl).trans h.q.box) hwd).mono ?_
  rintro e w' ⟨rfl,rfl⟩
  obtain⟨A,c,hbk,_⟩:=hwd.box
  exact⟨_,true,A,c,rfl,hbk.set 1 _,by rw[hc];rfl,hfb.trans (FrT.off ((Off.refl (fun b=>b=w.heap.size+1) (lnW w ws)).setCell (p:=⟨w.heap.size+1,1,none⟩) (fun _=>rfl) _) fun b hb _=>by
   rw[show b=w.heap.size+1 from hb]
   exact⟨by omega,hX1,_,_,_,hbk⟩),fun p' hp'=>by rw[hc] at hp';cases hp'⟩
 rw[List.concat_eq_append] at h0
 have hc:contO x p=(partO ws r).map fun r'=>{ p with rules:=R0++[r'] }:=by
  unfold contO
  rw[hd,if_pos rfl,h0,hws]
  simp only[List.getLast?_append,List.getLast?_singleton,Option.some_or,List.dropLast_concat]
  cases partO ws r<;>rfl
 have hrr:=hok.rules r (by rw[h0];simp)
 have hlen:=hok.len
 rw[h0,List.length_append] at hlen
 have hpas:PaS K (fun b=>X b||decide (b=w.heap.size+1)) X lo bt f l p lv rv w.heap.size (w.heap.size+1) (w.heap.size+1) ws false (lnW w ws) (lnW w ws):=by
  refine⟨h.on ⟨lnW_off w ws _,fun _ _=>rfl,fun b hb=>?_,fun b hb hk=>?_,fun b hb hx=>?_⟩ hlo,hwd,FrT.refl _ _ _,hW.ln ws,fun _=>rfl,hX1,hlo,hg⟩
  ·have:¬b=w.heap.size+1:=by omega
   simp[this]
  ·have:=(h.q.kk b hk).2.1;omega
  rw[lnW_size]
  simp only[Bool.or_eq_true,decide_eq_true_eq] at hx
  rcases hx with hx|hx
  ·have:=h.q.xx b hx;omega
  omega
 refine (part_any K _ X lo bt f l p R0 r lv rv w.heap.size (w.heap.size+1) (w.heap.size+1) ws (lnW w ws) hpas h0 hwl (by omega) (by rw[lnW_size];omega) (by rw[lnW_size];omega) (by omega) (by have:=hrr.1.1;omega) (by have:=hrr.2.1.1;omega) (by have:=hrr.2.2.1;omega)).mono ?_
 rintro e w' ⟨ws',b,rfl,⟨A,c,hbk⟩,hf,hrel,ht⟩
 refine⟨ws',b,A,c,rfl,hbk,by rw[hrel,hc];cases partO ws r<;>rfl,hfb.trans hf,fun p' hp'=>?_⟩
 rw[hc] at hp'
 cases hpo:partO ws r with
 | none=>rw[hpo] at hp';cases hp'
 | some r' =>
  rw[hpo] at hp'
  injection hp' with hp'
  obtain⟨K',hk⟩:=ht r' hpo
  subst hp'
  exact⟨K',rv,hk.less fun b hb=>by rw[hb];rfl⟩
end
end Go.Proofs.YtpcdmbajfmnoiaaGreatDoor
