/- The words of a line, taken one by one: take, is. No condition but bounds. A number of a line's words. Conditions: words of a million bytes at most; the library's variables hold what they should. A term, a net, a port of a text, by the program: match.Parse, syntax.readTerm, readNet, readPort. Conditions: texts of a million bytes at most; the library's variables hold what they should. Printed by gen_synmp.py. A term, a net, a port of a text: syntax.readTerm, readNet, readPort. Conditions: texts of a million bytes at most; the library's variables hold what they should. -/
import Derived.Test.YtpcdmbajfmnoiaaGreatDoorSynIter
import Derived.Test.YtpcdmbajfmnoiaaGreatDoorTxAll
namespace Go.Proofs.YtpcdmbajfmnoiaaGreatDoor
set_option linter.unusedVariables false
set_option linter.unusedSimpArgs false
open Go.RowKit
def Wd(w:World)(M B bw:Nat)(ws:List (List UInt8))(bad:Bool):Prop :=
 (M≤bw∧B≤w.heap.size)∧∃A n c,Blk w bw 98 [.slice A n c,.bool bad]∧n≤c∧c≤maxLen∧RdR sC 1 (mineW M (some bw) w) B A n ws
section
variable {w w':World} {M B bw:Nat} {ws r:List (List UInt8)} {bad:Bool} {s:List UInt8}
theorem RdR.offW{A:Option Addr}{n:Nat}{Y:Nat→Prop}(h:RdR sC 1 (mineW M (some bw) w) B A n ws)(hB:B≤w.heap.size)(ho:Off Y w w')(hY:∀b,Y b→b<M∨b=bw∨B≤b):RdR sC 1 (mineW M (some bw) w') B A n ws :=
 h.sub (Nat.le_refl _) (Sub.off ho hB (Nat.le_refl _) (fun k hk hn hl hy=>by rcases hY k hy with h|h|h;omega;exact hn (by rw[h]);omega) (fun k hk=>.inl hk))
theorem Wd.off{Y:Nat→Prop}(h:Wd w M B bw ws bad)(ho:Off Y w w')(hY:∀b,Y b→b<M∨(B≤b∧b≠bw)):Wd w' M B bw ws bad:=by
 obtain⟨h0,A,n,c,h1,h2,h3,h4⟩:=h
 exact⟨⟨h0.1,Nat.le_trans h0.2 ho.size⟩,A,n,c,h1.off ho (fun hy=>by have:=hY _ hy;omega),h2,h3,h4.offW h0.2 ho fun b hb=>by rcases hY b hb with h|h;exact .inl h;exact .inr (.inr h.1)⟩
theorem Wd.lt(h:Wd w M B bw ws bad):M≤bw∧bw<w.heap.size:=by
 obtain⟨h0,A,n,c,h1,h2⟩:=h
 exact⟨h0.1,h1.lt⟩
theorem Wd.nil(h:Wd w M B bw [] bad):∃A c,Blk w bw 98 [.slice A 0 c,.bool bad]∧c≤maxLen:=by
 obtain⟨h0,A,n,c,h1,h2,h3,h4⟩:=h
 obtain rfl:n=0:=h4.1.symm
 exact⟨A,c,h1,h3⟩
theorem Wd.of_nil{A:Option Addr}{c:Nat}(h0:M≤bw∧B≤w.heap.size)(h:Blk w bw 98 [.slice A 0 c,.bool bad])(hc:c≤maxLen):Wd w M B bw [] bad:=⟨h0,A,0,c,h,Nat.zero_le _,hc,RdR.nil⟩
theorem Wd.cons(h:Wd w M B bw (s::r) bad):∃b off n c,Blk w bw 98 [.slice (some ⟨b,off,none⟩) (n+1) c,.bool bad]∧n=r.length∧n+1≤c∧c≤maxLen∧w.cell? ⟨b,off,none⟩=some (.string (strB s))∧b≠bw ∧
  RdR sC 1 (mineW M (some bw) w) B (some ⟨b,off+1,none⟩) n r:=by
 obtain⟨h0,A,n,c,h1,h2,h3,h4⟩:=h
 have hn:=h4.1
 rw[List.length_cons] at hn
 obtain⟨b,off,rfl,hb,hc⟩:=h4.2 (by omega)
 subst hn
 have e0:=hc 0 (by simp) 0 _ rfl
 obtain⟨f1,f2,f3,_⟩:=mineW_in e0
 refine⟨b,off,r.length,c,h1,rfl,h2,h3,f1,fun e=>f3 (by rw[e]),rfl,fun hn=>⟨b,off+1,rfl,hb,fun j hj i v hv=>?_⟩⟩
 have:=hc (j+1) (by simp;omega) i v (by simpa using hv)
 rw[show off+(j+1)*1+i=off+1+j*1+i from by omega] at this
 exact this
theorem Wd.tail{b off n c:Nat}{A':Option Addr}{bad':Bool}(h0:M≤bw∧B≤w.heap.size)(hr:RdR sC 1 (mineW M (some bw) w) B (some ⟨b,off+1,none⟩) n r)(ho:Off (fun k=>k=bw) w w')(hA:0<n→A'=some ⟨b,off+1,none⟩)(hn:n≤c)(hc:c≤maxLen)
  (hb:Blk w' bw 98 [.slice A' n c,.bool bad']):Wd w' M B bw r bad':=by
 refine⟨⟨h0.1,Nat.le_trans h0.2 ho.size⟩,A',n,c,hb,hn,hc,?_⟩
 rcases Nat.eq_zero_or_pos n with hz|hp
 ·subst hz
  have:r=[]:=List.eq_nil_of_length_eq_zero hr.1
  subst this
  exact RdR.nil
 rw[hA hp]
 exact hr.offW h0.2 ho fun b hb=>.inr (.inl hb)
end
set_option maxRecDepth 100000 in
set_option maxHeartbeats 2000000 in
theorem take_nil(M B bw:Nat)(bad:Bool)(w:World)(h:Wd w M B bw [] bad) :
  Calls Tryz.prog 95 #[.pointer (some ⟨bw,0,none⟩)] w fun e w'=>e=.returned (.string (strB []))∧Wd w' M B bw [] true∧Off (fun k=>k=bw) w w':=by
 have h0:=h.1
 obtain⟨A,c,hb,hc⟩:=h.nil
 have e0:w.cell? ⟨bw,0,none⟩=some (.slice A 0 c):=hb.cell 0
 have e1:w.cell? ⟨bw,1,none⟩=some (.bool bad):=hb.cell 1
 have g1:w.frozen? ⟨bw,1,none⟩=false:=hb.frozen 1
 have HB:=Lib.hid (hb.set 1 (.bool true))
 clear h hb
 go_enter Tryz.func95,Tryz.ntmps95
 go_wp2_with fail
 go_ret
 exact⟨rfl,Wd.of_nil ⟨h0.1,by have:=h0.2;simpa [World.setCell] using this⟩ HB.out hc,(Off.refl (fun k=>k=bw) w).setCell (p:=⟨bw,1,none⟩) (fun _=>rfl) _⟩
set_option maxRecDepth 100000 in
set_option maxHeartbeats 2000000 in
theorem take_cons(M B bw:Nat)(bad:Bool)(s:List UInt8)(r:List (List UInt8))(w:World)(h:Wd w M B bw (s::r) bad) :
  Calls Tryz.prog 95 #[.pointer (some ⟨bw,0,none⟩)] w fun e w'=>e=.returned (.string (strB s))∧Wd w' M B bw r (bad||s.isEmpty)∧Off (fun k=>k=bw) w w':=by
 have h0:=h.1
 obtain⟨b,off,n,c,hb,hn,hnc,hc,e2,hne,hr⟩:=h.cons
 have e0:w.cell? ⟨bw,0,none⟩=some (.slice (some ⟨b,off,none⟩) (n+1) c):=hb.cell 0
 have e1:w.cell? ⟨bw,1,none⟩=some (.bool bad):=hb.cell 1
 have g0:w.frozen? ⟨bw,0,none⟩=false:=hb.frozen 0
 have g1:w.frozen? ⟨bw,1,none⟩=false:=hb.frozen 1
 have HB:=Lib.hid hb
 clear h hb hn
 have d1:((n:Int)+1==0)=false:=by rw[beq_eq_false_iff_ne];omega
 have b3:(1:Int)≤(n:Int)+1:=by omega
 have hc9:c≤9223372036854775807:=by unfold maxLen at hc;omega
 have fin:∀(A':Option Addr)(x:Bool),(0<n→A'=some ⟨b,off+1,none⟩)→Wd ((w.setCell ⟨bw,0,none⟩ (.slice A' n (c-1))).setCell ⟨bw,1,none⟩ (.bool x)) M B bw r x∧Off (fun k=>k=bw) w ((w.setCell ⟨bw,0,none⟩ (.slice A' n (c-1))).setCell ⟨bw,1,none⟩ (.bool x)):=fun A' x hA=>by
  have ho:Off (fun k=>k=bw) w ((w.setCell ⟨bw,0,none⟩ (.slice A' n (c-1))).setCell ⟨bw,1,none⟩ (.bool x)):=((Off.refl (fun k=>k=bw) w).setCell (p:=⟨bw,0,none⟩) (fun _=>rfl) _).setCell (p:=⟨bw,1,none⟩) (fun _=>rfl) _
  exact⟨Wd.tail h0 hr ho hA (by omega) (by omega) ((HB.out.set 0 _).set 1 _),ho⟩
 have FIN:=Lib.hid fin;clear fin
 have HR:=Lib.hid hr;clear hr
 by_cases h1:1<c
 ·have h2:¬c=1:=by omega
  cases bad
  ·go_enter Tryz.func95,Tryz.ntmps95
   go_wp2_with fail
   go_ret
   rw[Bool.false_or]
   exact⟨rfl,FIN.out _ _ fun _=>rfl⟩
  go_enter Tryz.func95,Tryz.ntmps95
  go_wp2_with fail
  go_ret
  rw[Bool.true_or]
  exact⟨rfl,FIN.out _ _ fun _=>rfl⟩
 obtain rfl:c=1:=by omega
 obtain rfl:n=0:=by omega
 cases bad
 ·go_enter Tryz.func95,Tryz.ntmps95
  go_wp2_with fail
  go_ret
  rw[Bool.false_or]
  exact⟨rfl,FIN.out _ _ fun h=>absurd h (by omega)⟩
 go_enter Tryz.func95,Tryz.ntmps95
 go_wp2_with fail
 go_ret
 rw[Bool.true_or]
 exact⟨rfl,FIN.out _ _ fun h=>absurd h (by omega)⟩
set_option maxRecDepth 100000 in
set_option maxHeartbeats 2000000 in
theorem is_nil(M B bw:Nat)(bad:Bool)(word:List UInt8)(w:World)(h:Wd w M B bw [] bad) :
  Calls Tryz.prog 55 #[.pointer (some ⟨bw,0,none⟩),.string (strB word)] w fun e w'=>e=.returned (.bool false)∧w=w':=by
 obtain⟨A,c,hb,hc⟩:=h.nil
 have e0:w.cell? ⟨bw,0,none⟩=some (.slice A 0 c):=hb.cell 0
 clear h hb
 go_enter Tryz.func55,Tryz.ntmps55
 go_wp2_with fail
 go_ret
 exact⟨rfl,rfl⟩
theorem strB_ne{a b:List UInt8}(h:a≠b):((strB a).toList==(strB b).toList)=false:=by
 rw[strB_toList,strB_toList,beq_eq_false_iff_ne]
 exact h
set_option maxRecDepth 100000 in
set_option maxHeartbeats 2000000 in
theorem is_no(M B bw:Nat)(bad:Bool)(word s:List UInt8)(r:List (List UInt8))(w:World)(h:Wd w M B bw (s::r) bad)(hs:s≠word) :
  Calls Tryz.prog 55 #[.pointer (some ⟨bw,0,none⟩),.string (strB word)] w fun e w'=>e=.returned (.bool false)∧w=w':=by
 obtain⟨b,off,n,c,hb,hn,hnc,hc,e2,hne,hr⟩:=h.cons
 have e0:w.cell? ⟨bw,0,none⟩=some (.slice (some ⟨b,off,none⟩) (n+1) c):=hb.cell 0
 have d1:((n:Int)+1==0)=false:=by rw[beq_eq_false_iff_ne];omega
 have hc9:c≤9223372036854775807:=by unfold maxLen at hc;omega
 have d2:=strB_ne hs
 clear h hb hn hr hs
 generalize strB s=sb at *
 generalize strB word=wb at *
 go_enter Tryz.func55,Tryz.ntmps55
 go_wp2_with fail
 go_ret
 exact⟨rfl,rfl⟩
set_option maxRecDepth 100000 in
set_option maxHeartbeats 2000000 in
theorem is_yes(M B bw:Nat)(bad:Bool)(s:List UInt8)(r:List (List UInt8))(w:World)(h:Wd w M B bw (s::r) bad) :
  Calls Tryz.prog 55 #[.pointer (some ⟨bw,0,none⟩),.string (strB s)] w fun e w'=>e=.returned (.bool true)∧Wd w' M B bw r bad∧Off (fun k=>k=bw) w w':=by
 have h0:=h.1
 obtain⟨b,off,n,c,hb,hn,hnc,hc,e2,hne,hr⟩:=h.cons
 have e0:w.cell? ⟨bw,0,none⟩=some (.slice (some ⟨b,off,none⟩) (n+1) c):=hb.cell 0
 have g0:w.frozen? ⟨bw,0,none⟩=false:=hb.frozen 0
 have d1:((n:Int)+1==0)=false:=by rw[beq_eq_false_iff_ne];omega
 have b3:(1:Int)≤(n:Int)+1:=by omega
 have hc9:c≤9223372036854775807:=by unfold maxLen at hc;omega
 have fin:∀(A':Option Addr),(0<n→A'=some ⟨b,off+1,none⟩)→Wd (w.setCell ⟨bw,0,none⟩ (.slice A' n (c-1))) M B bw r bad∧Off (fun k=>k=bw) w (w.setCell ⟨bw,0,none⟩ (.slice A' n (c-1))):=fun A' hA=>by
  have ho:Off (fun k=>k=bw) w (w.setCell ⟨bw,0,none⟩ (.slice A' n (c-1))):=(Off.refl (fun k=>k=bw) w).setCell (p:=⟨bw,0,none⟩) (fun _=>rfl) _
  exact⟨Wd.tail h0 hr ho hA (by omega) (by omega) (hb.set 0 _),ho⟩
 have FIN:=Lib.hid fin;clear fin
 have d2:((strB s).toList==(strB s).toList)=true:=by rw[strB_toList,beq_self_eq_true]
 clear h hb hn hr
 generalize strB s=sb at *
 by_cases h1:1<c
 ·have h2:¬c=1:=by omega
  go_enter Tryz.func55,Tryz.ntmps55
  go_wp2_with fail
  go_ret
  exact⟨rfl,FIN.out _ fun _=>rfl⟩
 obtain rfl:c=1:=by omega
 obtain rfl:n=0:=by omega
 go_enter Tryz.func55,Tryz.ntmps55
 go_wp2_with fail
 go_ret
 exact⟨rfl,FIN.out _ fun h=>absurd h (by omega)⟩
theorem pu_ok(l:List UInt8)(u:Nat)(w:World)(hl:l.length≤1000000)(h:Lib.parseUintB 64 l=.ok u) :
  Calls Tryz.prog 138 #[.string (strB l),.int .i64 10,.int .i64 64] w fun e w'=>e=.returned (.tuple #[.int .u64 (u:Int),.nilIface])∧Below w.heap.size w w':=by
 refine (strconv_ParseUint_10_at64_ok (strB l) (by rw[strB_size];omega) u h w).mono ?_
 rintro e w' ⟨rfl,rfl|rfl⟩
 ·exact⟨rfl,Below.refl _ _⟩
 exact⟨rfl,Lib.bytesWorld_below w _ _⟩
theorem pu_no(l:List UInt8)(w:World)(hW:LdW w)(hl:l.length≤1000000)(h:∀u,Lib.parseUintB 64 l≠ .ok u) :
  Calls Tryz.prog 138 #[.string (strB l),.int .i64 10,.int .i64 64] w fun e w'=>∃(v N:Nat),e=.returned (.tuple #[.int .u64 (v:Int),.iface 230 (.pointer (some ⟨N,0,none⟩))])∧v<18446744073709551616∧Below w.heap.size w w':=by
 rcases ha:Lib.parseUintB 64 l with v|_|_
 ·exact absurd ha (h v)
 ·obtain⟨tp,p,hv⟩:=hW.synt
  refine (strconv_ParseUint_10_at64_syntax_var (strB l) (by rw[strB_size];omega) ha tp p w hv).mono ?_
  rintro e w' ⟨N,rfl,_,_,f⟩
  exact⟨0,N,rfl,by omega,f⟩
 obtain⟨tp,p,hv⟩:=hW.rng
 refine (strconv_ParseUint_10_at64_range_var (strB l) (by rw[strB_size];omega) ha tp p w hv).mono ?_
 rintro e w' ⟨N,rfl,_,_,f⟩
 exact⟨18446744073709551615,N,rfl,by omega,f⟩
theorem LdW.offW{w w':World}{M bw:Nat}(h:LdW w)(hM:7<M)(hb:M≤bw)(hs:M≤w.heap.size)(ho:Off (fun k=>k=bw) w w'):LdW w' :=
 h.below hM (ho.below hs fun k hk=>by omega)
def NumP(M B bw:Nat)(s:List UInt8)(r:List (List UInt8))(b1:Bool)(w:World)(e:Ending)(w':World):Prop :=
 ∃(v:Nat),e=.returned (.int .u64 (v:Int))∧v<18446744073709551616∧Wd w' M B bw r (b1||(numO s).isNone)∧Off (fun k=>k=bw) w w'∧∀m,numO s=some m→v=m
theorem Blk.wd1{w w':World}{M B bw:Nat}{ws:List (List UInt8)}{bad x:Bool}(h:Wd w M B bw ws bad):Wd (w.setCell ⟨bw,1,none⟩ (.bool x)) M B bw ws x:=by
 obtain⟨h0,A,n,c,h1,h2,h3,h4⟩:=h
 exact⟨⟨h0.1,by simpa [World.setCell] using h0.2⟩,A,n,c,h1.set 1 _,h2,h3,h4.offW h0.2 ((Off.refl (fun k=>k=bw) w).setCell (p:=⟨bw,1,none⟩) (fun _=>rfl) _) fun b hb=>.inr (.inl hb)⟩
set_option maxRecDepth 100000 in
set_option maxHeartbeats 4000000 in
theorem number_core(M B bw:Nat)(s:List UInt8)(r:List (List UInt8))(b1:Bool)(w:World)(hW:LdW w)(hM:7<M)(hMb:M≤bw)(hMw:M≤w.heap.size)(hl:s.length≤1000000)
  (ht:Calls Tryz.prog 95 #[.pointer (some ⟨bw,0,none⟩)] w fun e w'=>e=.returned (.string (strB s))∧Wd w' M B bw r b1∧Off (fun k=>k=bw) w w') :
  Calls Tryz.prog 94 #[.pointer (some ⟨bw,0,none⟩)] w fun e w'=>NumP M B bw s r b1 w e w':=by
 by_cases hok:∃u,Lib.parseUintB 64 s=.ok u
 ·obtain⟨u,hu⟩:=hok
  have hu64:u<18446744073709551616:=by rw[Lib.parseUintB_64] at hu;exact Lib.parseMag_lt hu
  have hp:=fun w=>pu_ok s u w hl hu
  have hn:numO s=if Lib.decDigits u=s then some u else none:=by rw[numO_eq,hu]
  cases b1
  ·have hf:=fun w h=>fmtUint_any u hu64 w h
   have db:((strB (Lib.decDigits u)).toList==(strB s).toList)=decide (Lib.decDigits u=s):=by
    rw[strB_toList,strB_toList,Bool.eq_iff_iff];simp
   have hx:(numO s).isNone= !decide (Lib.decDigits u=s):=by
    rw[hn]
    by_cases hd:Lib.decDigits u=s
    ·rw[if_pos hd,decide_eq_true hd];rfl
    rw[if_neg hd,decide_eq_false hd];rfl
   have hm:∀m,numO s=some m→u=m:=fun m h=>by
    rw[hn] at h
    split at h
    ·injection h
    cases h
   generalize decide (Lib.decDigits u=s)=eq at *
   have HX:=Lib.hid hx;have HM:=Lib.hid hm;have HN:=Lib.hid hn
   clear hx hm hu hn
   generalize hsf:strB (Lib.decDigits u)=sf at *
   clear hsf
   generalize hsb:strB s=sb at *
   clear hsb
   go_enter Tryz.func94,Tryz.ntmps94
   go_wp2_with fail
   refine ht.mono ?_
   rintro e w1 ⟨rfl,k1,o1⟩
   clear ht
   have hW1:=hW.offW hM hMb hMw o1
   go_wp2_with fail
   refine (hp _).mono ?_
   rintro e w2 ⟨rfl,f2⟩
   have k2:=k1.off (Off.of_all f2) fun _ h=>h.elim
   have o2:=o1.trans (Off.of_all f2) fun _ _ h=>h.elim
   have hW2:=hW1.below hW1.lt f2
   have hsz2:=Nat.le_trans hMw o2.size
   clear f2 k1 o1 hW1 hp
   obtain⟨_,A2,n2,c2,hb2,_⟩:=id k2
   have e1:w2.cell? ⟨bw,1,none⟩=some (.bool false):=hb2.cell 1
   clear hb2
   go_wp2_with fail
   refine (hf _ hW2).mono ?_
   rintro e w3 ⟨rfl,f3⟩
   have k3:=k2.off (Off.of_all f3) fun _ h=>h.elim
   have o3:=o2.trans (Off.of_all f3) fun _ _ h=>h.elim
   clear f3 k2 o2 hW2 hf e1
   have hb3:=k3
   obtain⟨_,A3,n3,c3,hb3,_⟩:=hb3
   have e1:w3.cell? ⟨bw,1,none⟩=some (.bool false):=hb3.cell 1
   have g1:w3.frozen? ⟨bw,1,none⟩=false:=hb3.frozen 1
   clear hb3
   have K3:=Lib.hid k3;clear k3
   go_wp2_with fail
   go_ret
   exact⟨u,rfl,hu64,by rw[HX.out,Bool.false_or];exact Blk.wd1 (w':=w3) K3.out,o3.setCell (p:=⟨bw,1,none⟩) (fun _=>rfl) _,HM.out⟩
  have hm:∀m,numO s=some m→u=m:=fun m h=>by
   rw[hn] at h
   split at h
   ·injection h
   cases h
  have HM:=Lib.hid hm
  clear hm hu hn
  generalize hsb:strB s=sb at *
  clear hsb
  go_enter Tryz.func94,Tryz.ntmps94
  go_wp2_with fail
  refine ht.mono ?_
  rintro e w1 ⟨rfl,k1,o1⟩
  clear ht
  have hW1:=hW.offW hM hMb hMw o1
  go_wp2_with fail
  refine (hp _).mono ?_
  rintro e w2 ⟨rfl,f2⟩
  have k2:=k1.off (Off.of_all f2) fun _ h=>h.elim
  have o2:=o1.trans (Off.of_all f2) fun _ _ h=>h.elim
  clear f2 k1 o1 hW1 hp
  obtain⟨_,A2,n2,c2,hb2,_⟩:=id k2
  have e1:w2.cell? ⟨bw,1,none⟩=some (.bool true):=hb2.cell 1
  have g1:w2.frozen? ⟨bw,1,none⟩=false:=hb2.frozen 1
  clear hb2
  have K3:=Lib.hid k2;clear k2
  go_wp2_with fail
  go_ret
  exact⟨u,rfl,hu64,by rw[Bool.true_or];exact Blk.wd1 (w':=w2) K3.out,o2.setCell (p:=⟨bw,1,none⟩) (fun _=>rfl) _,HM.out⟩
 have hno:∀u,Lib.parseUintB 64 s≠ .ok u:=fun u h=>hok ⟨u,h⟩
 have hn:numO s=none:=by
  rw[numO_eq]
  cases h:Lib.parseUintB 64 s with
  | ok u=>exact absurd h (hno u)
  | _=>rfl
 have hp:=fun w h=>pu_no s w h hl hno
 have HN:=Lib.hid hn;clear hn hno hok
 cases b1
 ·generalize hsb:strB s=sb at *
  clear hsb
  go_enter Tryz.func94,Tryz.ntmps94
  go_wp2_with fail
  refine ht.mono ?_
  rintro e w1 ⟨rfl,k1,o1⟩
  clear ht
  have hW1:=hW.offW hM hMb hMw o1
  go_wp2_with fail
  refine (hp _ hW1).mono ?_
  rintro e w2 ⟨v,N,rfl,hv64,f2⟩
  have k2:=k1.off (Off.of_all f2) fun _ h=>h.elim
  have o2:=o1.trans (Off.of_all f2) fun _ _ h=>h.elim
  clear f2 k1 o1 hW1 hp
  obtain⟨_,A2,n2,c2,hb2,_⟩:=id k2
  have e1:w2.cell? ⟨bw,1,none⟩=some (.bool false):=hb2.cell 1
  have g1:w2.frozen? ⟨bw,1,none⟩=false:=hb2.frozen 1
  clear hb2
  have K3:=Lib.hid k2;clear k2
  go_wp2_with fail
  go_ret
  exact⟨v,rfl,hv64,by rw[HN.out];exact Blk.wd1 (w':=w2) K3.out,o2.setCell (p:=⟨bw,1,none⟩) (fun _=>rfl) _,fun m h=>by rw[HN.out] at h;cases h⟩
 generalize hsb:strB s=sb at *
 clear hsb
 go_enter Tryz.func94,Tryz.ntmps94
 go_wp2_with fail
 refine ht.mono ?_
 rintro e w1 ⟨rfl,k1,o1⟩
 clear ht
 have hW1:=hW.offW hM hMb hMw o1
 go_wp2_with fail
 refine (hp _ hW1).mono ?_
 rintro e w2 ⟨v,N,rfl,hv64,f2⟩
 have k2:=k1.off (Off.of_all f2) fun _ h=>h.elim
 have o2:=o1.trans (Off.of_all f2) fun _ _ h=>h.elim
 clear f2 k1 o1 hW1 hp
 obtain⟨_,A2,n2,c2,hb2,_⟩:=id k2
 have e1:w2.cell? ⟨bw,1,none⟩=some (.bool true):=hb2.cell 1
 have g1:w2.frozen? ⟨bw,1,none⟩=false:=hb2.frozen 1
 clear hb2
 have K3:=Lib.hid k2;clear k2
 go_wp2_with fail
 go_ret
 exact⟨v,rfl,hv64,by rw[HN.out];exact Blk.wd1 (w':=w2) K3.out,o2.setCell (p:=⟨bw,1,none⟩) (fun _=>rfl) _,fun m h=>by rw[HN.out] at h;cases h⟩
theorem number_any(M B bw:Nat)(ws:List (List UInt8))(bad:Bool)(w:World)(hW:LdW w)(hM:7<M)(hMw:M≤w.heap.size)(hl:∀s∈ws,s.length≤1000000)(h:Wd w M B bw ws bad) :
  Calls Tryz.prog 94 #[.pointer (some ⟨bw,0,none⟩)] w fun e w'=>NumP M B bw (ws.headD []) ws.tail bad w e w':=by
 have n0:numO []=none:=by
  cases h:numO [] with
  | none=>rfl
  | some n=>exact absurd (numO_inv h).1 (dec_ne n)
 cases ws with
 | nil =>
  refine (number_core M B bw [] [] true w hW hM h.1.1 hMw (by simp) (take_nil M B bw bad w h)).mono ?_
  rintro e w' ⟨v,h1,h2,h3,h4,h5⟩
  refine⟨v,h1,h2,?_,h4,h5⟩
  show Wd w' M B bw [] (bad||(numO []).isNone)
  rw[n0,Option.isNone_none,Bool.or_true]
  rw[Bool.true_or] at h3
  exact h3
 | cons s r =>
  refine (number_core M B bw s r (bad||s.isEmpty) w hW hM h.1.1 hMw (hl s (by simp)) (take_cons M B bw bad s r w h)).mono ?_
  rintro e w' ⟨v,h1,h2,h3,h4,h5⟩
  refine⟨v,h1,h2,?_,h4,h5⟩
  show Wd w' M B bw r (bad||(numO s).isNone)
  cases s with
  | nil=>rw[n0] at h3 ⊢;simpa using h3
  | cons x s=>simpa using h3
theorem cp_any(s p:List UInt8)(w:World):Calls Tryz.prog 52 #[.string (strB s),.string (strB p)] w fun e w'=>e=.returned (.tuple #[.string (strB (Lib.trimPrefix s p)),.bool (p.isPrefixOf s)])∧w=w':=by
 refine (strings_CutPrefix (strB s) (strB p) w).mono ?_
 rintro e w' ⟨rfl,rfl⟩
 exact⟨rfl,rfl⟩
theorem cs_any(s p:List UInt8)(w:World)(hs:s.length≤1000000):Calls Tryz.prog 173 #[.string (strB s),.string (strB p)] w fun e w'=>e=.returned (.tuple #[.string (strB (Lib.trimSuffix s p)),.bool (p.isSuffixOf s)])∧w=w':=by
 refine (strings_CutSuffix (strB s) (strB p) w (by rw[strB_size];omega)).mono ?_
 rintro e w' ⟨rfl,rfl⟩
 exact⟨rfl,rfl⟩
theorem pre42_yes(r:List UInt8):([42]:List UInt8).isPrefixOf (42::r)=true∧Lib.trimPrefix (42::r) [42]=r:=by
 have h:([42]:List UInt8).isPrefixOf (42::r)=true:=by simp[List.isPrefixOf]
 refine⟨h,?_⟩
 unfold Lib.trimPrefix Lib.hasPrefix
 rw[if_pos h]
 rfl
theorem pre42_no{s:List UInt8}(h:s.head?≠some 42):([42]:List UInt8).isPrefixOf s=false:=by
 cases s with
 | nil=>rfl
 | cons b s =>
  have:¬(42:UInt8)=b:=fun e=>h (by rw[e];rfl)
  simp[List.isPrefixOf,this]
theorem suf42_yes{s:List UInt8}(h:s.getLast?=some 42):([42]:List UInt8).isSuffixOf s=true∧Lib.trimSuffix s [42]=s.dropLast:=by
 have e:=last_app h
 have h1:([42]:List UInt8).isSuffixOf s=true:=List.isSuffixOf_iff_suffix.2 ⟨s.dropLast,e⟩
 refine⟨h1,?_⟩
 unfold Lib.trimSuffix Lib.hasSuffix
 rw[if_pos h1,List.dropLast_eq_take]
 rfl
theorem suf42_no{s:List UInt8}(h:s.getLast?≠some 42):([42]:List UInt8).isSuffixOf s=false:=by
 cases hs:([42]:List UInt8).isSuffixOf s with
 | false=>rfl
 | true =>
  obtain⟨t,ht⟩:=List.isSuffixOf_iff_suffix.1 hs
  rw[←ht] at h
  simp at h
def mpV(s:List UInt8):Value:=if tmMay (tmOf s) then .tuple #[.agg (tmC (tmOf s)).toArray,.int .i64 0] else .tuple #[.agg (tmC (0,[])).toArray,.int .i64 2]
set_option maxRecDepth 100000 in
set_option maxHeartbeats 8000000 in
theorem mparse_any(s:List UInt8)(w:World)(hs:s.length≤1000000) :
  Calls Tryz.prog 135 #[.string (strB s)] w fun e w'=>e=.returned (mpV s)∧Below w.heap.size w w':=by
 have HI:=Lib.hid (show (Tryz.prog.info? 42).map (·.size)=some 2 by kernel_rfl)
 have c42:strB [42]=⟨#[42]⟩:=rfl
 have hcp:=fun w=>cp_any s [42] w
 have hcs:=fun w=>cs_any s [42] w hs
 rw[c42] at hcp hcs
 obtain⟨R,hR⟩:∃R,mpV s=R:=⟨_,rfl⟩
 rw[hR]
 unfold mpV at hR
 by_cases h1:s.head?=some 42
 ·obtain⟨rest,rfl⟩:∃r,s=42::r:=by
   cases s with
   | nil=>cases h1
   | cons b s=>injection h1 with h1;exact⟨s,by rw[h1]⟩
  rw[(pre42_yes rest).1,(pre42_yes rest).2] at hcp
  rw[List.length_cons] at hs
  have e1:tmOf (42::rest)=tmStar rest:=by unfold tmOf;rw[if_pos h1];rfl
  rw[e1] at hR
  unfold tmStar at hR
  clear h1 e1 hcs
  have hcs:True:=trivial
  generalize strB (42::rest)=sb at *
  by_cases h2:rest=[]
  ·rw[if_pos h2] at hR
   have y1:(strB rest).toList.isEmpty=true:=by rw[h2,strB_toList];rfl
   subst h2
   have hm:=fun(w:World)=>tMay_any 4 [] w (by omega)
   rcases hmy:tmMay (4,[]) with _|_
   ·rw[hmy] at hR hm
    have HR:=Lib.hid hR;clear hR hmy
    generalize hsr:strB []=sr at *
    have HSR:=Lib.hid hsr;clear hsr
    have k0:Blk (((w.alloc (.cells #[.int .i64 0,.string ⟨#[]⟩] 42))).alloc (.cells #[.int .i64 4,.string sr] 42)) w.heap.size 42 [.int .i64 0,.string ⟨#[]⟩]:=(Blk.newAt (w:=w) rfl 42 #[.int .i64 0,.string ⟨#[]⟩]).alloc _
    have k1:Blk (((w.alloc (.cells #[.int .i64 0,.string ⟨#[]⟩] 42))).alloc (.cells #[.int .i64 4,.string sr] 42)) (w.heap.size+1) 42 [.int .i64 4,.string sr]:=Blk.newAt (by simp) 42 #[.int .i64 4,.string sr]
    have f0:Below w.heap.size w (((w.alloc (.cells #[.int .i64 0,.string ⟨#[]⟩] 42))).alloc (.cells #[.int .i64 4,.string sr] 42)):=((Below.refl _ w).alloc (Nat.le_refl _) _).alloc (by simp) _
    have F0:=Lib.hid f0;have K0:=Lib.hid k0;have K1:=Lib.hid k1;clear f0 k0 k1
    go_enter Tryz.func135,Tryz.ntmps135
    go_wp2_with (first|(go_at_call 52;refine (hcp _).mono ?_;rintro e w' ⟨rfl,rfl⟩)|(go_at_call 173;refine (hcs _).mono ?_;rintro e w' ⟨rfl,rfl⟩))
    refine (hm _).mono ?_
    rintro e w2 ⟨rfl,f2⟩
    have k2:=K0.out.below f2 K0.out.lt
    have k3:=K1.out.below f2 K1.out.lt
    have f3:=F0.out.trans (f2.mono F0.out.size)
    clear f2
    have a0:w2.cell? ⟨w.heap.size+1,0,none⟩=some (.int .i64 4):=k3.cell 0
    have a1:w2.cell? ⟨w.heap.size+1,1,none⟩=some (.string sr):=k3.cell 1
    have c0:w2.cell? ⟨w.heap.size,0,none⟩=some (.int .i64 0):=k2.cell 0
    have c1:w2.cell? ⟨w.heap.size,1,none⟩=some (.string ⟨#[]⟩):=k2.cell 1
    have g0:w2.frozen? ⟨w.heap.size,0,none⟩=false:=k2.frozen 0
    have g1:w2.frozen? ⟨w.heap.size,1,none⟩=false:=k2.frozen 1
    have k4:=(k2.set 0 (.int .i64 0)).set 1 (.string ⟨#[]⟩)
    have f4:=(f3.setCell (p:=⟨w.heap.size,0,none⟩) (Nat.le_refl _) (.int .i64 0)).setCell (p:=⟨w.heap.size,1,none⟩) (Nat.le_refl _) (.string ⟨#[]⟩)
    have K4:=Lib.hid k4;have F4:=Lib.hid f4;clear k2 k3 f3 k4 f4
    go_wp2_with fail
    refine bodyPost_ret (K4.out.sizedT rfl _ rfl Tryz.underlying42 HI.out) rfl ⟨?_,F4.out⟩
    rw[←HR.out]
    rfl
   rw[hmy] at hR hm
   have HR:=Lib.hid hR;clear hR hmy
   generalize hsr:strB []=sr at *
   have HSR:=Lib.hid hsr;clear hsr
   have k0:Blk (((w.alloc (.cells #[.int .i64 0,.string ⟨#[]⟩] 42))).alloc (.cells #[.int .i64 4,.string sr] 42)) w.heap.size 42 [.int .i64 0,.string ⟨#[]⟩]:=(Blk.newAt (w:=w) rfl 42 #[.int .i64 0,.string ⟨#[]⟩]).alloc _
   have k1:Blk (((w.alloc (.cells #[.int .i64 0,.string ⟨#[]⟩] 42))).alloc (.cells #[.int .i64 4,.string sr] 42)) (w.heap.size+1) 42 [.int .i64 4,.string sr]:=Blk.newAt (by simp) 42 #[.int .i64 4,.string sr]
   have f0:Below w.heap.size w (((w.alloc (.cells #[.int .i64 0,.string ⟨#[]⟩] 42))).alloc (.cells #[.int .i64 4,.string sr] 42)):=((Below.refl _ w).alloc (Nat.le_refl _) _).alloc (by simp) _
   have F0:=Lib.hid f0;have K0:=Lib.hid k0;have K1:=Lib.hid k1;clear f0 k0 k1
   go_enter Tryz.func135,Tryz.ntmps135
   go_wp2_with (first|(go_at_call 52;refine (hcp _).mono ?_;rintro e w' ⟨rfl,rfl⟩)|(go_at_call 173;refine (hcs _).mono ?_;rintro e w' ⟨rfl,rfl⟩))
   refine (hm _).mono ?_
   rintro e w2 ⟨rfl,f2⟩
   have k2:=K0.out.below f2 K0.out.lt
   have k3:=K1.out.below f2 K1.out.lt
   have f3:=F0.out.trans (f2.mono F0.out.size)
   clear f2
   have a0:w2.cell? ⟨w.heap.size+1,0,none⟩=some (.int .i64 4):=k3.cell 0
   have a1:w2.cell? ⟨w.heap.size+1,1,none⟩=some (.string sr):=k3.cell 1
   have c0:w2.cell? ⟨w.heap.size,0,none⟩=some (.int .i64 0):=k2.cell 0
   have c1:w2.cell? ⟨w.heap.size,1,none⟩=some (.string ⟨#[]⟩):=k2.cell 1
   have g0:w2.frozen? ⟨w.heap.size,0,none⟩=false:=k2.frozen 0
   have g1:w2.frozen? ⟨w.heap.size,1,none⟩=false:=k2.frozen 1
   have k4:=(k2.set 0 (.int .i64 4)).set 1 (.string sr)
   have f4:=(f3.setCell (p:=⟨w.heap.size,0,none⟩) (Nat.le_refl _) (.int .i64 4)).setCell (p:=⟨w.heap.size,1,none⟩) (Nat.le_refl _) (.string sr)
   have K4:=Lib.hid k4;have F4:=Lib.hid f4;clear k2 k3 f3 k4 f4
   go_wp2_with fail
   refine bodyPost_ret (K4.out.sizedT rfl _ rfl Tryz.underlying42 HI.out) rfl ⟨?_,F4.out⟩
   rw[←HR.out];unfold tmC;simp only[HSR.out]
   rfl
  rw[if_neg h2] at hR
  have y1:(strB rest).toList.isEmpty=false:=by rw[strB_toList];simpa using h2
  clear h2
  have hm:=fun(w:World)=>tMay_any 3 rest w (by omega)
  rcases hmy:tmMay (3,rest) with _|_
  ·rw[hmy] at hR hm
   have HR:=Lib.hid hR;clear hR hmy
   generalize hsr:strB rest=sr at *
   have HSR:=Lib.hid hsr;clear hsr
   have k0:Blk (((w.alloc (.cells #[.int .i64 0,.string ⟨#[]⟩] 42))).alloc (.cells #[.int .i64 3,.string sr] 42)) w.heap.size 42 [.int .i64 0,.string ⟨#[]⟩]:=(Blk.newAt (w:=w) rfl 42 #[.int .i64 0,.string ⟨#[]⟩]).alloc _
   have k1:Blk (((w.alloc (.cells #[.int .i64 0,.string ⟨#[]⟩] 42))).alloc (.cells #[.int .i64 3,.string sr] 42)) (w.heap.size+1) 42 [.int .i64 3,.string sr]:=Blk.newAt (by simp) 42 #[.int .i64 3,.string sr]
   have f0:Below w.heap.size w (((w.alloc (.cells #[.int .i64 0,.string ⟨#[]⟩] 42))).alloc (.cells #[.int .i64 3,.string sr] 42)):=((Below.refl _ w).alloc (Nat.le_refl _) _).alloc (by simp) _
   have F0:=Lib.hid f0;have K0:=Lib.hid k0;have K1:=Lib.hid k1;clear f0 k0 k1
   go_enter Tryz.func135,Tryz.ntmps135
   go_wp2_with (first|(go_at_call 52;refine (hcp _).mono ?_;rintro e w' ⟨rfl,rfl⟩)|(go_at_call 173;refine (hcs _).mono ?_;rintro e w' ⟨rfl,rfl⟩))
   refine (hm _).mono ?_
   rintro e w2 ⟨rfl,f2⟩
   have k2:=K0.out.below f2 K0.out.lt
   have k3:=K1.out.below f2 K1.out.lt
   have f3:=F0.out.trans (f2.mono F0.out.size)
   clear f2
   have a0:w2.cell? ⟨w.heap.size+1,0,none⟩=some (.int .i64 3):=k3.cell 0
   have a1:w2.cell? ⟨w.heap.size+1,1,none⟩=some (.string sr):=k3.cell 1
   have c0:w2.cell? ⟨w.heap.size,0,none⟩=some (.int .i64 0):=k2.cell 0
   have c1:w2.cell? ⟨w.heap.size,1,none⟩=some (.string ⟨#[]⟩):=k2.cell 1
   have g0:w2.frozen? ⟨w.heap.size,0,none⟩=false:=k2.frozen 0
   have g1:w2.frozen? ⟨w.heap.size,1,none⟩=false:=k2.frozen 1
   have k4:=(k2.set 0 (.int .i64 0)).set 1 (.string ⟨#[]⟩)
   have f4:=(f3.setCell (p:=⟨w.heap.size,0,none⟩) (Nat.le_refl _) (.int .i64 0)).setCell (p:=⟨w.heap.size,1,none⟩) (Nat.le_refl _) (.string ⟨#[]⟩)
   have K4:=Lib.hid k4;have F4:=Lib.hid f4;clear k2 k3 f3 k4 f4
   go_wp2_with fail
   refine bodyPost_ret (K4.out.sizedT rfl _ rfl Tryz.underlying42 HI.out) rfl ⟨?_,F4.out⟩
   rw[←HR.out]
   rfl
  rw[hmy] at hR hm
  have HR:=Lib.hid hR;clear hR hmy
  generalize hsr:strB rest=sr at *
  have HSR:=Lib.hid hsr;clear hsr
  have k0:Blk (((w.alloc (.cells #[.int .i64 0,.string ⟨#[]⟩] 42))).alloc (.cells #[.int .i64 3,.string sr] 42)) w.heap.size 42 [.int .i64 0,.string ⟨#[]⟩]:=(Blk.newAt (w:=w) rfl 42 #[.int .i64 0,.string ⟨#[]⟩]).alloc _
  have k1:Blk (((w.alloc (.cells #[.int .i64 0,.string ⟨#[]⟩] 42))).alloc (.cells #[.int .i64 3,.string sr] 42)) (w.heap.size+1) 42 [.int .i64 3,.string sr]:=Blk.newAt (by simp) 42 #[.int .i64 3,.string sr]
  have f0:Below w.heap.size w (((w.alloc (.cells #[.int .i64 0,.string ⟨#[]⟩] 42))).alloc (.cells #[.int .i64 3,.string sr] 42)):=((Below.refl _ w).alloc (Nat.le_refl _) _).alloc (by simp) _
  have F0:=Lib.hid f0;have K0:=Lib.hid k0;have K1:=Lib.hid k1;clear f0 k0 k1
  go_enter Tryz.func135,Tryz.ntmps135
  go_wp2_with (first|(go_at_call 52;refine (hcp _).mono ?_;rintro e w' ⟨rfl,rfl⟩)|(go_at_call 173;refine (hcs _).mono ?_;rintro e w' ⟨rfl,rfl⟩))
  refine (hm _).mono ?_
  rintro e w2 ⟨rfl,f2⟩
  have k2:=K0.out.below f2 K0.out.lt
  have k3:=K1.out.below f2 K1.out.lt
  have f3:=F0.out.trans (f2.mono F0.out.size)
  clear f2
  have a0:w2.cell? ⟨w.heap.size+1,0,none⟩=some (.int .i64 3):=k3.cell 0
  have a1:w2.cell? ⟨w.heap.size+1,1,none⟩=some (.string sr):=k3.cell 1
  have c0:w2.cell? ⟨w.heap.size,0,none⟩=some (.int .i64 0):=k2.cell 0
  have c1:w2.cell? ⟨w.heap.size,1,none⟩=some (.string ⟨#[]⟩):=k2.cell 1
  have g0:w2.frozen? ⟨w.heap.size,0,none⟩=false:=k2.frozen 0
  have g1:w2.frozen? ⟨w.heap.size,1,none⟩=false:=k2.frozen 1
  have k4:=(k2.set 0 (.int .i64 3)).set 1 (.string sr)
  have f4:=(f3.setCell (p:=⟨w.heap.size,0,none⟩) (Nat.le_refl _) (.int .i64 3)).setCell (p:=⟨w.heap.size,1,none⟩) (Nat.le_refl _) (.string sr)
  have K4:=Lib.hid k4;have F4:=Lib.hid f4;clear k2 k3 f3 k4 f4
  go_wp2_with fail
  refine bodyPost_ret (K4.out.sizedT rfl _ rfl Tryz.underlying42 HI.out) rfl ⟨?_,F4.out⟩
  rw[←HR.out];unfold tmC;simp only[HSR.out]
  rfl
 rw[pre42_no h1] at hcp
 unfold tmOf at hR
 rw[if_neg h1] at hR
 generalize strB (Lib.trimPrefix s [42])=sp at *
 by_cases h2:s.getLast?=some 42
 ·rw[(suf42_yes h2).1,(suf42_yes h2).2] at hcs
  rw[if_pos h2] at hR
  have hdl:s.dropLast.length≤1000000:=by rw[List.length_dropLast];omega
  clear h1 h2
  generalize strB s=sb at *
  generalize s.dropLast=rest at *
  have hm:=fun(w:World)=>tMay_any 2 rest w (by omega)
  rcases hmy:tmMay (2,rest) with _|_
  ·rw[hmy] at hR hm
   have HR:=Lib.hid hR;clear hR hmy
   generalize hsr:strB rest=sr at *
   have HSR:=Lib.hid hsr;clear hsr
   have k0:Blk (((w.alloc (.cells #[.int .i64 0,.string ⟨#[]⟩] 42))).alloc (.cells #[.int .i64 2,.string sr] 42)) w.heap.size 42 [.int .i64 0,.string ⟨#[]⟩]:=(Blk.newAt (w:=w) rfl 42 #[.int .i64 0,.string ⟨#[]⟩]).alloc _
   have k1:Blk (((w.alloc (.cells #[.int .i64 0,.string ⟨#[]⟩] 42))).alloc (.cells #[.int .i64 2,.string sr] 42)) (w.heap.size+1) 42 [.int .i64 2,.string sr]:=Blk.newAt (by simp) 42 #[.int .i64 2,.string sr]
   have f0:Below w.heap.size w (((w.alloc (.cells #[.int .i64 0,.string ⟨#[]⟩] 42))).alloc (.cells #[.int .i64 2,.string sr] 42)):=((Below.refl _ w).alloc (Nat.le_refl _) _).alloc (by simp) _
   have F0:=Lib.hid f0;have K0:=Lib.hid k0;have K1:=Lib.hid k1;clear f0 k0 k1
   go_enter Tryz.func135,Tryz.ntmps135
   go_wp2_with (first|(go_at_call 52;refine (hcp _).mono ?_;rintro e w' ⟨rfl,rfl⟩)|(go_at_call 173;refine (hcs _).mono ?_;rintro e w' ⟨rfl,rfl⟩))
   refine (hm _).mono ?_
   rintro e w2 ⟨rfl,f2⟩
   have k2:=K0.out.below f2 K0.out.lt
   have k3:=K1.out.below f2 K1.out.lt
   have f3:=F0.out.trans (f2.mono F0.out.size)
   clear f2
   have a0:w2.cell? ⟨w.heap.size+1,0,none⟩=some (.int .i64 2):=k3.cell 0
   have a1:w2.cell? ⟨w.heap.size+1,1,none⟩=some (.string sr):=k3.cell 1
   have c0:w2.cell? ⟨w.heap.size,0,none⟩=some (.int .i64 0):=k2.cell 0
   have c1:w2.cell? ⟨w.heap.size,1,none⟩=some (.string ⟨#[]⟩):=k2.cell 1
   have g0:w2.frozen? ⟨w.heap.size,0,none⟩=false:=k2.frozen 0
   have g1:w2.frozen? ⟨w.heap.size,1,none⟩=false:=k2.frozen 1
   have k4:=(k2.set 0 (.int .i64 0)).set 1 (.string ⟨#[]⟩)
   have f4:=(f3.setCell (p:=⟨w.heap.size,0,none⟩) (Nat.le_refl _) (.int .i64 0)).setCell (p:=⟨w.heap.size,1,none⟩) (Nat.le_refl _) (.string ⟨#[]⟩)
   have K4:=Lib.hid k4;have F4:=Lib.hid f4;clear k2 k3 f3 k4 f4
   go_wp2_with fail
   refine bodyPost_ret (K4.out.sizedT rfl _ rfl Tryz.underlying42 HI.out) rfl ⟨?_,F4.out⟩
   rw[←HR.out]
   rfl
  rw[hmy] at hR hm
  have HR:=Lib.hid hR;clear hR hmy
  generalize hsr:strB rest=sr at *
  have HSR:=Lib.hid hsr;clear hsr
  have k0:Blk (((w.alloc (.cells #[.int .i64 0,.string ⟨#[]⟩] 42))).alloc (.cells #[.int .i64 2,.string sr] 42)) w.heap.size 42 [.int .i64 0,.string ⟨#[]⟩]:=(Blk.newAt (w:=w) rfl 42 #[.int .i64 0,.string ⟨#[]⟩]).alloc _
  have k1:Blk (((w.alloc (.cells #[.int .i64 0,.string ⟨#[]⟩] 42))).alloc (.cells #[.int .i64 2,.string sr] 42)) (w.heap.size+1) 42 [.int .i64 2,.string sr]:=Blk.newAt (by simp) 42 #[.int .i64 2,.string sr]
  have f0:Below w.heap.size w (((w.alloc (.cells #[.int .i64 0,.string ⟨#[]⟩] 42))).alloc (.cells #[.int .i64 2,.string sr] 42)):=((Below.refl _ w).alloc (Nat.le_refl _) _).alloc (by simp) _
  have F0:=Lib.hid f0;have K0:=Lib.hid k0;have K1:=Lib.hid k1;clear f0 k0 k1
  go_enter Tryz.func135,Tryz.ntmps135
  go_wp2_with (first|(go_at_call 52;refine (hcp _).mono ?_;rintro e w' ⟨rfl,rfl⟩)|(go_at_call 173;refine (hcs _).mono ?_;rintro e w' ⟨rfl,rfl⟩))
  refine (hm _).mono ?_
  rintro e w2 ⟨rfl,f2⟩
  have k2:=K0.out.below f2 K0.out.lt
  have k3:=K1.out.below f2 K1.out.lt
  have f3:=F0.out.trans (f2.mono F0.out.size)
  clear f2
  have a0:w2.cell? ⟨w.heap.size+1,0,none⟩=some (.int .i64 2):=k3.cell 0
  have a1:w2.cell? ⟨w.heap.size+1,1,none⟩=some (.string sr):=k3.cell 1
  have c0:w2.cell? ⟨w.heap.size,0,none⟩=some (.int .i64 0):=k2.cell 0
  have c1:w2.cell? ⟨w.heap.size,1,none⟩=some (.string ⟨#[]⟩):=k2.cell 1
  have g0:w2.frozen? ⟨w.heap.size,0,none⟩=false:=k2.frozen 0
  have g1:w2.frozen? ⟨w.heap.size,1,none⟩=false:=k2.frozen 1
  have k4:=(k2.set 0 (.int .i64 2)).set 1 (.string sr)
  have f4:=(f3.setCell (p:=⟨w.heap.size,0,none⟩) (Nat.le_refl _) (.int .i64 2)).setCell (p:=⟨w.heap.size,1,none⟩) (Nat.le_refl _) (.string sr)
  have K4:=Lib.hid k4;have F4:=Lib.hid f4;clear k2 k3 f3 k4 f4
  go_wp2_with fail
  refine bodyPost_ret (K4.out.sizedT rfl _ rfl Tryz.underlying42 HI.out) rfl ⟨?_,F4.out⟩
  rw[←HR.out];unfold tmC;simp only[HSR.out]
  rfl
 rw[suf42_no h2] at hcs
 rw[if_neg h2] at hR
 clear h1 h2
 generalize strB (Lib.trimSuffix s [42])=sq at *
 have hm:=fun(w:World)=>tMay_any 1 s w (by omega)
 rcases hmy:tmMay (1,s) with _|_
 ·rw[hmy] at hR hm
  have HR:=Lib.hid hR;clear hR hmy
  generalize hsr:strB s=sr at *
  have HSR:=Lib.hid hsr;clear hsr
  have k0:Blk (((w.alloc (.cells #[.int .i64 0,.string ⟨#[]⟩] 42))).alloc (.cells #[.int .i64 1,.string sr] 42)) w.heap.size 42 [.int .i64 0,.string ⟨#[]⟩]:=(Blk.newAt (w:=w) rfl 42 #[.int .i64 0,.string ⟨#[]⟩]).alloc _
  have k1:Blk (((w.alloc (.cells #[.int .i64 0,.string ⟨#[]⟩] 42))).alloc (.cells #[.int .i64 1,.string sr] 42)) (w.heap.size+1) 42 [.int .i64 1,.string sr]:=Blk.newAt (by simp) 42 #[.int .i64 1,.string sr]
  have f0:Below w.heap.size w (((w.alloc (.cells #[.int .i64 0,.string ⟨#[]⟩] 42))).alloc (.cells #[.int .i64 1,.string sr] 42)):=((Below.refl _ w).alloc (Nat.le_refl _) _).alloc (by simp) _
  have F0:=Lib.hid f0;have K0:=Lib.hid k0;have K1:=Lib.hid k1;clear f0 k0 k1
  go_enter Tryz.func135,Tryz.ntmps135
  go_wp2_with (first|(go_at_call 52;refine (hcp _).mono ?_;rintro e w' ⟨rfl,rfl⟩)|(go_at_call 173;refine (hcs _).mono ?_;rintro e w' ⟨rfl,rfl⟩))
  refine (hm _).mono ?_
  rintro e w2 ⟨rfl,f2⟩
  have k2:=K0.out.below f2 K0.out.lt
  have k3:=K1.out.below f2 K1.out.lt
  have f3:=F0.out.trans (f2.mono F0.out.size)
  clear f2
  have a0:w2.cell? ⟨w.heap.size+1,0,none⟩=some (.int .i64 1):=k3.cell 0
  have a1:w2.cell? ⟨w.heap.size+1,1,none⟩=some (.string sr):=k3.cell 1
  have c0:w2.cell? ⟨w.heap.size,0,none⟩=some (.int .i64 0):=k2.cell 0
  have c1:w2.cell? ⟨w.heap.size,1,none⟩=some (.string ⟨#[]⟩):=k2.cell 1
  have g0:w2.frozen? ⟨w.heap.size,0,none⟩=false:=k2.frozen 0
  have g1:w2.frozen? ⟨w.heap.size,1,none⟩=false:=k2.frozen 1
  have k4:=(k2.set 0 (.int .i64 0)).set 1 (.string ⟨#[]⟩)
  have f4:=(f3.setCell (p:=⟨w.heap.size,0,none⟩) (Nat.le_refl _) (.int .i64 0)).setCell (p:=⟨w.heap.size,1,none⟩) (Nat.le_refl _) (.string ⟨#[]⟩)
  have K4:=Lib.hid k4;have F4:=Lib.hid f4;clear k2 k3 f3 k4 f4
  go_wp2_with fail
  refine bodyPost_ret (K4.out.sizedT rfl _ rfl Tryz.underlying42 HI.out) rfl ⟨?_,F4.out⟩
  rw[←HR.out]
  rfl
 rw[hmy] at hR hm
 have HR:=Lib.hid hR;clear hR hmy
 generalize hsr:strB s=sr at *
 have HSR:=Lib.hid hsr;clear hsr
 have k0:Blk (((w.alloc (.cells #[.int .i64 0,.string ⟨#[]⟩] 42))).alloc (.cells #[.int .i64 1,.string sr] 42)) w.heap.size 42 [.int .i64 0,.string ⟨#[]⟩]:=(Blk.newAt (w:=w) rfl 42 #[.int .i64 0,.string ⟨#[]⟩]).alloc _
 have k1:Blk (((w.alloc (.cells #[.int .i64 0,.string ⟨#[]⟩] 42))).alloc (.cells #[.int .i64 1,.string sr] 42)) (w.heap.size+1) 42 [.int .i64 1,.string sr]:=Blk.newAt (by simp) 42 #[.int .i64 1,.string sr]
 have f0:Below w.heap.size w (((w.alloc (.cells #[.int .i64 0,.string ⟨#[]⟩] 42))).alloc (.cells #[.int .i64 1,.string sr] 42)):=((Below.refl _ w).alloc (Nat.le_refl _) _).alloc (by simp) _
 have F0:=Lib.hid f0;have K0:=Lib.hid k0;have K1:=Lib.hid k1;clear f0 k0 k1
 go_enter Tryz.func135,Tryz.ntmps135
 go_wp2_with (first|(go_at_call 52;refine (hcp _).mono ?_;rintro e w' ⟨rfl,rfl⟩)|(go_at_call 173;refine (hcs _).mono ?_;rintro e w' ⟨rfl,rfl⟩))
 refine (hm _).mono ?_
 rintro e w2 ⟨rfl,f2⟩
 have k2:=K0.out.below f2 K0.out.lt
 have k3:=K1.out.below f2 K1.out.lt
 have f3:=F0.out.trans (f2.mono F0.out.size)
 clear f2
 have a0:w2.cell? ⟨w.heap.size+1,0,none⟩=some (.int .i64 1):=k3.cell 0
 have a1:w2.cell? ⟨w.heap.size+1,1,none⟩=some (.string sr):=k3.cell 1
 have c0:w2.cell? ⟨w.heap.size,0,none⟩=some (.int .i64 0):=k2.cell 0
 have c1:w2.cell? ⟨w.heap.size,1,none⟩=some (.string ⟨#[]⟩):=k2.cell 1
 have g0:w2.frozen? ⟨w.heap.size,0,none⟩=false:=k2.frozen 0
 have g1:w2.frozen? ⟨w.heap.size,1,none⟩=false:=k2.frozen 1
 have k4:=(k2.set 0 (.int .i64 1)).set 1 (.string sr)
 have f4:=(f3.setCell (p:=⟨w.heap.size,0,none⟩) (Nat.le_refl _) (.int .i64 1)).setCell (p:=⟨w.heap.size,1,none⟩) (Nat.le_refl _) (.string sr)
 have K4:=Lib.hid k4;have F4:=Lib.hid f4;clear k2 k3 f3 k4 f4
 go_wp2_with fail
 refine bodyPost_ret (K4.out.sizedT rfl _ rfl Tryz.underlying42 HI.out) rfl ⟨?_,F4.out⟩
 rw[←HR.out];unfold tmC;simp only[HSR.out]
 rfl
set_option maxRecDepth 100000 in
set_option maxHeartbeats 4000000 in
theorem readTerm_any(s:List UInt8)(w:World)(hs:s.length≤1000000) :
  Calls Tryz.prog 89 #[.string (strB s)] w fun e w'=>e=.returned (.tuple #[.agg (tmC ((readTm s).getD (0,[]))).toArray,.bool (readTm s).isSome])∧Below w.heap.size w w':=by
 have HI:=Lib.hid (show (Tryz.prog.info? 42).map (·.size)=some 2 by kernel_rfl)
 have hp:=fun w=>mparse_any s w hs
 obtain⟨K,l,E,ok,h1,h2,h3⟩:∃(K:Int)(l:List UInt8)(E:Int)(ok:Bool),mpV s=.tuple #[.agg #[.int .i64 K,.string (strB l)],.int .i64 E]∧(E==0)=ok∧Value.tuple #[.agg (tmC ((readTm s).getD (0,[]))).toArray,.bool (readTm s).isSome]=.tuple #[.agg #[.int .i64 K,.string (strB l)],.bool ok]:=by
  unfold mpV readTm
  by_cases hm:tmMay (tmOf s)=true
  ·rw[if_pos hm,if_pos hm]
   exact⟨(tmOf s).1,(tmOf s).2,0,true,rfl,rfl,rfl⟩
  rw[if_neg hm,if_neg hm]
  exact⟨0,[],2,false,rfl,rfl,rfl⟩
 rw[h1] at hp
 rw[h3]
 clear h1 h3
 generalize strB l=sl at *
 generalize strB s=sb at *
 have k0:=Blk.newAt (w:=w) rfl 42 #[.int .i64 0,.string ⟨#[]⟩]
 have f0:Below w.heap.size w (w.alloc (.cells #[.int .i64 0,.string ⟨#[]⟩] 42)):=(Below.refl _ w).alloc (Nat.le_refl _) _
 have K0:=Lib.hid k0;have F0:=Lib.hid f0;clear k0 f0
 go_enter Tryz.func89,Tryz.ntmps89
 go_wp2_with fail
 refine (hp _).mono ?_
 rintro e w2 ⟨rfl,f2⟩
 have k2:=K0.out.below f2 K0.out.lt
 have f3:=F0.out.trans (f2.mono F0.out.size)
 have hlt2:=k2.lt
 clear f2
 have k6:=((k2.set 0 (.int .i64 K)).set 1 (.string sl)).alloc (.cells #[.int .i64 K,.string sl] 42)
 have f6:=((f3.setCell (p:=⟨w.heap.size,0,none⟩) (Nat.le_refl _) (.int .i64 K)).setCell (p:=⟨w.heap.size,1,none⟩) (Nat.le_refl _) (.string sl)).alloc (by simp;omega) (.cells #[.int .i64 K,.string sl] 42)
 have K6:=Lib.hid k6;have F6:=Lib.hid f6
 have c0:w2.cell? ⟨w.heap.size,0,none⟩=some (.int .i64 0):=k2.cell 0
 have c1:w2.cell? ⟨w.heap.size,1,none⟩=some (.string ⟨#[]⟩):=k2.cell 1
 have g0:w2.frozen? ⟨w.heap.size,0,none⟩=false:=k2.frozen 0
 have g1:w2.frozen? ⟨w.heap.size,1,none⟩=false:=k2.frozen 1
 have hne:¬w.heap.size=w2.heap.size:=by omega
 have hne2:¬w2.heap.size=w.heap.size:=by omega
 clear k2 f3 k6 f6
 go_wp2_with fail
 refine bodyPost_ret (K6.out.sizedT rfl _ rfl Tryz.underlying42 HI.out) rfl ⟨?_,F6.out⟩
 rfl
set_option maxRecDepth 100000 in
set_option maxHeartbeats 4000000 in
theorem readNet_any(s:List UInt8)(w:World)(hW:LdW w)(hs:s.length≤1000000) :
  Calls Tryz.prog 91 #[.string (strB s)] w fun e w'=>e=.returned (.tuple #[.agg (ntC ((parseNetA s).getD (0,0))).toArray,.bool (parseNetA s).isSome])∧Below w.heap.size w w':=by
 have HI:=Lib.hid (show (Tryz.prog.info? 85).map (·.size)=some 2 by kernel_rfl)
 have hlt:=hW.lt
 have hp:=fun w h=>parseNet_any s hs w h
 obtain⟨a,b,E,ok,h1,h2,h3⟩:∃(a:Nat)(b:Int)(E:Int)(ok:Bool),pnV (parseNetA s)=.tuple #[.agg #[.int .u32 (a:Int),.int .i64 b],.int .i64 E]∧(E==0)=ok∧Value.tuple #[.agg (ntC ((parseNetA s).getD (0,0))).toArray,.bool (parseNetA s).isSome]=.tuple #[.agg #[.int .u32 (a:Int),.int .i64 b],.bool ok]:=by
  cases hm:parseNetA s with
  | some c=>exact⟨c.1,c.2,0,true,rfl,rfl,rfl⟩
  | none=>exact⟨0,0,2,false,rfl,rfl,rfl⟩
 rw[h1] at hp
 rw[h3]
 clear h1 h3
 generalize (a:Int)=av at *
 generalize strB s=sb at *
 have k0:=Blk.newAt (w:=w) rfl 85 #[.int .u32 0,.int .i64 0]
 have f0:Below w.heap.size w (w.alloc (.cells #[.int .u32 0,.int .i64 0] 85)):=(Below.refl _ w).alloc (Nat.le_refl _) _
 have L1:=hW.below hlt f0
 have K0:=Lib.hid k0;have F0:=Lib.hid f0;clear k0 f0
 go_enter Tryz.func91,Tryz.ntmps91
 go_wp2_with fail
 refine (hp _ L1).mono ?_
 rintro e w2 ⟨rfl,f2⟩
 have k2:=K0.out.below f2 K0.out.lt
 have f3:=F0.out.trans (f2.mono F0.out.size)
 have hlt2:=k2.lt
 clear f2
 have k6:=((k2.set 0 (.int .u32 av)).set 1 (.int .i64 b)).alloc (.cells #[.int .u32 av,.int .i64 b] 85)
 have f6:=((f3.setCell (p:=⟨w.heap.size,0,none⟩) (Nat.le_refl _) (.int .u32 av)).setCell (p:=⟨w.heap.size,1,none⟩) (Nat.le_refl _) (.int .i64 b)).alloc (by simp;omega) (.cells #[.int .u32 av,.int .i64 b] 85)
 have K6:=Lib.hid k6;have F6:=Lib.hid f6
 have c0:w2.cell? ⟨w.heap.size,0,none⟩=some (.int .u32 0):=k2.cell 0
 have c1:w2.cell? ⟨w.heap.size,1,none⟩=some (.int .i64 0):=k2.cell 1
 have g0:w2.frozen? ⟨w.heap.size,0,none⟩=false:=k2.frozen 0
 have g1:w2.frozen? ⟨w.heap.size,1,none⟩=false:=k2.frozen 1
 have hne:¬w.heap.size=w2.heap.size:=by omega
 have hne2:¬w2.heap.size=w.heap.size:=by omega
 clear k2 f3 k6 f6
 go_wp2_with fail
 refine bodyPost_ret (K6.out.sizedT rfl _ rfl Tryz.underlying85 HI.out) rfl ⟨?_,F6.out⟩
 rfl
def PtP(s:List UInt8)(w:World)(e:Ending)(w':World):Prop:=∃x:Int,e=.returned (.tuple #[.int .i64 x,.bool (readPt s).isSome])∧(∀y,readPt s=some y→x=y)∧Below w.heap.size w w'
theorem atoi_bd{l:List UInt8}{v:Int}(h:Lib.atoiAll l=.ok v): -9223372036854775808≤v∧v≤9223372036854775807:=Lib.atoiAll_bounds h
set_option maxRecDepth 100000 in
set_option maxHeartbeats 4000000 in
theorem readPort_any(s:List UInt8)(w:World)(hW:LdW w)(hs:s.length≤1000000) :
  Calls Tryz.prog 93 #[.string (strB s)] w fun e w'=>PtP s w e w':=by
 have hlt:=hW.lt
 by_cases hok:∃v,Lib.atoiAll s=.ok v
 ·obtain⟨v,hv⟩:=hok
  obtain⟨v1,v2⟩:=atoi_bd hv
  have ha:=fun w=>atoi_ok s v w hs hv
  have hi:=fun w h=>itoa_any v w h v1 v2
  have hr:readPt s=if 0≤v∧v≤65536∧Lib.itoa v=s then some v else none:=by
   unfold readPt
   by_cases hc:0≤v∧v≤65536∧Lib.itoa v=s
   ·rw[smallS_ok hv hc.1 hc.2.1 hc.2.2,if_neg (by omega),if_pos hc]
   rw[smallS_not hv hc,if_pos (by omega),if_neg hc]
  have hy:∀y,readPt s=some y→v=y:=fun y h=>by
   rw[hr] at h
   split at h
   ·injection h
   cases h
  have HY:=Lib.hid hy;clear hy
  by_cases h1:0≤v
  ·have d1:decide (0≤v)=true:=by simpa using h1
   have d1':decide (v<0)=false:=by simp;omega
   by_cases h2:v≤65536
   ·have d2:decide (v≤65536)=true:=by simpa using h2
    have d2':decide (65536<v)=false:=by simp;omega
    by_cases h3:Lib.itoa v=s
    ·have HR:=Lib.hid (show (readPt s).isSome=true by rw[hr,if_pos ⟨h1,h2,h3⟩];rfl)
     have db:((strB (Lib.itoa v)).toList==(strB s).toList)=true:=by rw[h3,beq_self_eq_true]
     clear hr hv h3
     generalize strB (Lib.itoa v)=sv at *
     generalize strB s=sb at *
     go_enter Tryz.func93,Tryz.ntmps93
     go_wp2_with fail
     refine (ha w).mono ?_
     rintro e w1 ⟨rfl,f1⟩
     go_wp2_with fail
     refine (hi w1 (hW.below hlt f1)).mono ?_
     rintro e w2 ⟨rfl,f2⟩
     have f3:=f1.trans (f2.below.mono f1.size)
     go_wp2_with fail
     go_ret2
     exact⟨v,by rw[HR.out];rfl,HY.out,f3⟩
    have HR:=Lib.hid (show (readPt s).isSome=false by rw[hr,if_neg (fun h=>h3 h.2.2)];rfl)
    have db:((strB (Lib.itoa v)).toList==(strB s).toList)=false:=strB_ne h3
    clear hr hv h3
    generalize strB (Lib.itoa v)=sv at *
    generalize strB s=sb at *
    go_enter Tryz.func93,Tryz.ntmps93
    go_wp2_with fail
    refine (ha w).mono ?_
    rintro e w1 ⟨rfl,f1⟩
    go_wp2_with fail
    refine (hi w1 (hW.below hlt f1)).mono ?_
    rintro e w2 ⟨rfl,f2⟩
    have f3:=f1.trans (f2.below.mono f1.size)
    go_wp2_with fail
    go_ret2
    exact⟨v,by rw[HR.out];rfl,HY.out,f3⟩
   have d2:decide (v≤65536)=false:=by simpa using h2
   have d2':decide (65536<v)=true:=by simp;omega
   have HR:=Lib.hid (show (readPt s).isSome=false by rw[hr,if_neg (fun h=>h2 h.2.1)];rfl)
   clear hr hv
   generalize strB s=sb at *
   go_enter Tryz.func93,Tryz.ntmps93
   go_wp2_with fail
   refine (ha w).mono ?_
   rintro e w1 ⟨rfl,f1⟩
   go_wp2_with fail
   go_ret2
   exact⟨v,by rw[HR.out];rfl,HY.out,f1⟩
  have d1:decide (0≤v)=false:=by simpa using h1
  have d1':decide (v<0)=true:=by simp;omega
  have HR:=Lib.hid (show (readPt s).isSome=false by rw[hr,if_neg (fun h=>h1 h.1)];rfl)
  clear hr hv
  generalize strB s=sb at *
  go_enter Tryz.func93,Tryz.ntmps93
  go_wp2_with fail
  refine (ha w).mono ?_
  rintro e w1 ⟨rfl,f1⟩
  go_wp2_with fail
  go_ret2
  exact⟨v,by rw[HR.out];rfl,HY.out,f1⟩
 have hno:∀v,Lib.atoiAll s≠ .ok v:=fun v h=>hok ⟨v,h⟩
 have hr:readPt s=none:=by
  unfold readPt
  rw[smallS_no hno,if_pos (by omega)]
 have HR:=Lib.hid hr
 have ha:=fun w h=>atoi_no s w h hs hno
 clear hr hok hno
 generalize strB s=sb at *
 go_enter Tryz.func93,Tryz.ntmps93
 go_wp2_with fail
 refine (ha w hW).mono ?_
 rintro e w1 ⟨v,N,rfl,f1⟩
 go_wp2_with fail
 go_ret2
 exact⟨v,by rw[HR.out];rfl,(fun y h=>by rw[HR.out] at h;cases h),f1⟩
end Go.Proofs.YtpcdmbajfmnoiaaGreatDoor
