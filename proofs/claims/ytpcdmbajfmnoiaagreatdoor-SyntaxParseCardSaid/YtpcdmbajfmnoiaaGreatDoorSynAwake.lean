/- The awake of the laws of layer 15: true. Conditions: the library's variables hold what they should. -/
import Derived.Test.YtpcdmbajfmnoiaaGreatDoorSynPsAll
import Derived.Test.YtpcdmbajfmnoiaaGreatDoorSynPrAll
namespace Go.Proofs.YtpcdmbajfmnoiaaGreatDoor
set_option linter.unusedVariables false
set_option linter.unusedSimpArgs false
open Go.RowKit Go.Sort
def GETb:List UInt8:=[71,69,84]
def exTg:Tg:=⟨[80],[(1,GETb)],[],[]⟩
def exRu:Ru:=⟨[],[exTg],[]⟩
def exP1:Po:=⟨3,[],0,1,[exRu]⟩
def exP2:Po:=⟨4,[115,104,111,112],2,0,[]⟩
theorem nilR{α:Type}{enc:α→List Value}{k:Nat}{w:World}{B:Nat}:RvR enc k w B (.slice none 0 0) ([]:List α):=⟨none,0,0,rfl,Nat.le_refl _,by simp[maxLen],RdR.nil⟩
theorem nilG{α:Type}{k:Nat}{P:World→Nat→List Value→α→Prop}{w:World}{B:Nat}:RvG k P w B (.slice none 0 0) ([]:List α):=⟨none,0,0,rfl,Nat.le_refl _,by simp[maxLen],RdG.nil⟩
theorem oneR{α:Type}{enc:α→List Value}{k:Nat}{w:World}{B g t:Nat}{x:α}(h:Blk w g t (enc x))(hB:g<B):RvR enc k w B (.slice (some ⟨g,0,none⟩) 1 1) [x] :=
 ⟨_,1,1,rfl,Nat.le_refl _,by simp[maxLen],rfl,fun _=>⟨g,0,rfl,hB,fun j hj i v hv=>by
  have hj0:j=0:=by simp at hj;exact hj
  subst hj0
  rw[Nat.zero_mul,Nat.zero_add,h.cell]
  exact hv⟩⟩
theorem oneG{α:Type}{k:Nat}{P:World→Nat→List Value→α→Prop}{w:World}{B g t:Nat}{cs:List Value}{x:α}(h:Blk w g t cs)(hk:cs.length=k)(hP:P w B cs x)(hB:g<B):RvG k P w B (.slice (some ⟨g,0,none⟩) 1 1) [x] :=
 ⟨_,1,1,rfl,Nat.le_refl _,by simp[maxLen],rfl,fun _=>⟨g,0,rfl,hB,fun j hj=>⟨cs,hk,by
  have hj0:j=0:=by simp at hj;exact hj
  subst hj0
  exact hP,fun i v hv=>by
  have hj0:j=0:=by simp at hj;exact hj
  subst hj0
  rw[Nat.zero_mul,Nat.zero_add,h.cell]
  exact hv⟩⟩⟩
theorem intsR{w:World}{B g t:Nat}{ps:List Int}(h:Blk w g t (ps.map fun x=>.int .i64 x))(hl:ps.length≤1000)(hB:g<B):RvI w B (.slice (some ⟨g,0,none⟩) ps.length ps.length) ps :=
 ⟨_,_,_,rfl,Nat.le_refl _,by simp only[maxLen];omega,rfl,fun _=>⟨g,0,rfl,hB,fun j hj i v hv=>by
  rcases i with _|i
  ·rw[Nat.mul_one,Nat.add_zero,Nat.zero_add,h.cell,List.getElem?_map,List.getElem?_eq_getElem hj]
   exact hv
  cases hv⟩⟩
theorem ex_ok:∀p∈[exP1,exP2],okPo p∧bP p:=by
 have hts:okTs [(1,GETb)]:=⟨by decide,by intro t ht;simp only[List.mem_cons,List.mem_nil_iff,or_false] at ht;subst ht;show (3:Nat)≤1000000;omega⟩
 have hi:okInts [80]:=⟨by decide,by decide⟩
 have h0:okTs []:=⟨by decide,fun t ht=>by cases ht⟩
 have ht:okTg exTg:=⟨hi,hts,h0,h0⟩
 have hr:okRu exRu:=⟨⟨by decide,fun s hs=>by cases hs⟩,⟨by decide,fun t h=>by simp only[exRu,List.mem_cons,List.mem_nil_iff,or_false] at h;subst h;exact ht⟩,⟨by decide,fun s hs=>by cases hs⟩⟩
 have bt0:bT []:=⟨by decide,(fun t ht=>by cases ht),by decide⟩
 have bt1:bT [(1,GETb)]:=⟨by decide,by intro t ht;simp only[List.mem_cons,List.mem_nil_iff,or_false] at ht;subst ht;show (3:Nat)≤1000000;omega,by decide +kernel⟩
 have bi:bI [80]:=⟨by decide,by decide,by decide +kernel⟩
 have bg:bG exTg:=⟨bi,bt1,bt0,bt0⟩
 have br:bR exRu:=⟨⟨by decide,fun s hs=>by cases hs⟩,⟨by decide,fun t h=>by simp only[exRu,List.mem_cons,List.mem_nil_iff,or_false] at h;subst h;exact bg⟩,⟨by decide,fun s hs=>by cases hs⟩⟩
 intro p hp
 simp only[List.mem_cons,List.mem_nil_iff,or_false] at hp
 rcases hp with rfl|rfl
 ·refine⟨⟨by decide,by show (0:Nat)≤1000000;omega,by decide,by decide,⟨by decide,fun r h=>?_⟩⟩,by decide,fun r h=>?_⟩<;>(simp only[exP1,List.mem_cons,List.mem_nil_iff,or_false] at h;subst h;first|exact hr|exact br)
 exact⟨⟨by decide,by show (4:Nat)≤1000000;omega,by decide,by decide,⟨by decide,fun r h=>by cases h⟩⟩,by decide,fun r h=>by cases h⟩
theorem ex_may:[exP1,exP2].all poMay=true:=by decide +kernel
theorem ex_text:[exP1,exP2].flatMap polS=[112,111,108,105,99,121,32,51,32,100,101,110,121,10,32,32,114,117,108,101,10,32,32,32,32,116,111,32,112,111,114,116,115,32,56,48,32,109,101,116,104,111,100,115,32,71,69,84,10,112,111,108,105,99,121,32,52,32,97,108,108,111,119,32,110,115,32,115,104,111,112,32,115,101,114,118,105,99,101,32,50,10]:=by decide +kernel
theorem ex_spl:spl 10 [112,111,108,105,99,121,32,48,51,32,100,101,110,121,10]=[[112,111,108,105,99,121,32,48,51,32,100,101,110,121],[]]:=by decide +kernel
theorem ex_pol:policyO (spl 32 [112,111,108,105,99,121,32,48,51,32,100,101,110,121]).tail=none:=by decide +kernel
theorem ex_parse:parseS [112,111,108,105,99,121,32,48,51,32,100,101,110,121,10]=.error 1:=by
 have hb:begP [112,111,108,105,99,121,32,48,51,32,100,101,110,121]=true:=by decide +kernel
 refine parse_step (x:=[112,111,108,105,99,121,32,48,51,32,100,101,110,121]) (i:=0) (st:=⟨[],none⟩) (by rw[ex_spl];rfl) (by rw[ex_spl];decide) rfl ?_
 unfold stepP
 rw[if_pos hb]
 unfold finP
 simp only
 rw[ex_pol]
theorem exB_rd{u:World}{s:Nat}(k0:Blk u s 3 [.int .i64 80])(k1:Blk u (s+1) 42 [.int .i64 1,.string (strB GETb)])(k2:Blk u (s+1+1) 45 [.slice (some ⟨s,0,none⟩) 1 1,.slice (some ⟨s+1,0,none⟩) 1 1,.slice none 0 0,.slice none 0 0])
  (k3:Blk u (s+1+1+1) 50 [.slice none 0 0,.slice (some ⟨s+1+1,0,none⟩) 1 1,.slice none 0 0]) {t:Nat} (k5:Blk u (s+1+1+1+1+1) t [.int .u64 ((3:Nat):Int),.string (strB []),.int .u64 ((0:Nat):Int),.int .i64 1,.slice (some ⟨s+1+1+1,0,none⟩) 1 1,.int .u64 ((4:Nat):Int),.string (strB [115,104,111,112]),.int .u64 ((2:Nat):Int),.int .i64 0,.slice none 0 0]) :
  RdG 5 PoP u u.heap.size (some ⟨s+1+1+1+1+1,0,none⟩) 2 [exP1,exP2]:=by
 have p1:PoP u u.heap.size [.int .u64 ((3:Nat):Int),.string (strB []),.int .u64 ((0:Nat):Int),.int .i64 1,.slice (some ⟨s+1+1+1,0,none⟩) 1 1] exP1 :=
  ⟨_,rfl,oneG k3 rfl ⟨_,_,_,rfl,nilG,oneG k2 rfl ⟨_,_,_,_,rfl,intsR (ps:=[80]) k0 (by decide) k0.lt,oneR (enc:=tmC) k1 k1.lt,nilR,nilR⟩ k2.lt,nilG⟩ k3.lt⟩
 have p2:PoP u u.heap.size [.int .u64 ((4:Nat):Int),.string (strB [115,104,111,112]),.int .u64 ((2:Nat):Int),.int .i64 0,.slice none 0 0] exP2:=⟨_,rfl,nilG⟩
 refine⟨rfl,fun _=>⟨_,0,rfl,k5.lt,fun j hj=>?_⟩⟩
 have hj':j=0∨j=1:=by simp at hj;omega
 rcases hj' with rfl|rfl
 ·refine⟨_,rfl,p1,fun i v hv=>?_⟩
  have hi:=(List.getElem?_eq_some_iff.1 hv).1
  rw[k5.cell,show 0+0*5+i=i by omega]
  rw[show ([Value.int .u64 ((3:Nat):Int),.string (strB []),.int .u64 ((0:Nat):Int),.int .i64 1,.slice (some ⟨s+1+1+1,0,none⟩) 1 1,.int .u64 ((4:Nat):Int),.string (strB [115,104,111,112]),.int .u64 ((2:Nat):Int),.int .i64 0,.slice none 0 0]:List Value)=[Value.int .u64 ((3:Nat):Int),.string (strB []),.int .u64 ((0:Nat):Int),.int .i64 1,.slice (some ⟨s+1+1+1,0,none⟩) 1 1]++[.int .u64 ((4:Nat):Int),.string (strB [115,104,111,112]),.int .u64 ((2:Nat):Int),.int .i64 0,.slice none 0 0] from rfl,List.getElem?_append_left hi]
  exact hv
 refine⟨_,rfl,p2,fun i v hv=>?_⟩
 rw[k5.cell,show 0+1*5+i=5+i by omega]
 rw[show ([Value.int .u64 ((3:Nat):Int),.string (strB []),.int .u64 ((0:Nat):Int),.int .i64 1,.slice (some ⟨s+1+1+1,0,none⟩) 1 1,.int .u64 ((4:Nat):Int),.string (strB [115,104,111,112]),.int .u64 ((2:Nat):Int),.int .i64 0,.slice none 0 0]:List Value)=[Value.int .u64 ((3:Nat):Int),.string (strB []),.int .u64 ((0:Nat):Int),.int .i64 1,.slice (some ⟨s+1+1+1,0,none⟩) 1 1]++[.int .u64 ((4:Nat):Int),.string (strB [115,104,111,112]),.int .u64 ((2:Nat):Int),.int .i64 0,.slice none 0 0] from rfl,List.getElem?_append_right (by simp)]
 rw[show 5+i-[Value.int .u64 ((3:Nat):Int),.string (strB []),.int .u64 ((0:Nat):Int),.int .i64 1,.slice (some ⟨s+1+1+1,0,none⟩) 1 1].length=i by simp]
 exact hv
def exW(w:World):World :=
 (((((w.alloc (.cells #[.int .i64 80] 3)).alloc (.cells #[.int .i64 1,.string ⟨#[71,69,84]⟩] 42)).alloc (.cells #[.slice (some ⟨w.heap.size,0,none⟩) 1 1,.slice (some ⟨w.heap.size+1,0,none⟩) 1 1,.slice none 0 0,.slice none 0 0] 45)).alloc (.cells #[.slice none 0 0,.slice (some ⟨w.heap.size+1+1,0,none⟩) 1 1,.slice none 0 0] 50)).alloc (.cells #[.int .u64 3,.string ⟨#[]⟩,.int .u64 0,.int .i64 1,.slice (some ⟨w.heap.size+1+1+1,0,none⟩) 1 1] 39)).alloc
  (.cells #[.int .u64 3,.string ⟨#[]⟩,.int .u64 0,.int .i64 1,.slice (some ⟨w.heap.size+1+1+1,0,none⟩) 1 1,.int .u64 4,.string ⟨#[115,104,111,112]⟩,.int .u64 2,.int .i64 0,.slice none 0 0] 39)
theorem exW_below(w:World):Below w.heap.size w (exW w):=by
 unfold exW
 exact ((((((Below.refl _ w).alloc (Nat.le_refl _) _).alloc (by simp) _).alloc (by simp;omega) _).alloc (by simp;omega) _).alloc (by simp;omega) _).alloc (by simp;omega) _
theorem exW_rd(w:World):RdG 5 PoP (exW w) (exW w).heap.size (some ⟨w.heap.size+1+1+1+1+1,0,none⟩) 2 [exP1,exP2]:=by
 refine exB_rd ?_ ?_ ?_ ?_ (t:=39) ?_
 ·exact (((((Blk.newAt rfl _ #[.int .i64 80]).alloc _).alloc _).alloc _).alloc _).alloc _
 ·exact ((((Blk.newAt (by simp) _ #[.int .i64 1,.string ⟨#[71,69,84]⟩]).alloc _).alloc _).alloc _).alloc _
 ·exact (((Blk.newAt (by simp) _ #[.slice (some ⟨w.heap.size,0,none⟩) 1 1,.slice (some ⟨w.heap.size+1,0,none⟩) 1 1,.slice none 0 0,.slice none 0 0]).alloc _).alloc _).alloc _
 ·exact ((Blk.newAt (by simp) _ #[.slice none 0 0,.slice (some ⟨w.heap.size+1+1,0,none⟩) 1 1,.slice none 0 0]).alloc _).alloc _
 exact Blk.newAt (by simp) _ #[.int .u64 3,.string ⟨#[]⟩,.int .u64 0,.int .i64 1,.slice (some ⟨w.heap.size+1+1+1,0,none⟩) 1 1,.int .u64 4,.string ⟨#[115,104,111,112]⟩,.int .u64 2,.int .i64 0,.slice none 0 0]
set_option maxRecDepth 100000 in
set_option maxHeartbeats 4000000 in
theorem awake15_any(w:World)(hW:LdW w):Calls Tryz.prog 9 #[] w fun e w'=>e=.returned (.bool true)∧Below w.heap.size w w':=by
 have hW6:=hW.below hW.lt (exW_below w)
 have hpr:=print15_any _ 2 2 [exP1,exP2] (exW w) hW6 (exW_rd w) (by decide) (fun p hp=>(ex_ok p hp).1) (fun p hp _=>(ex_ok p hp).2)
 rw[ex_may,if_pos rfl,ex_text] at hpr
 have hps:=fun(u:World)(hu:LdW u)=>psParse_any [112,111,108,105,99,121,32,48,51,32,100,101,110,121,10] u hu (by decide)
 obtain⟨st,hst⟩:∃y,strB [112,111,108,105,99,121,32,51,32,100,101,110,121,10,32,32,114,117,108,101,10,32,32,32,32,116,111,32,112,111,114,116,115,32,56,48,32,109,101,116,104,111,100,115,32,71,69,84,10,112,111,108,105,99,121,32,52,32,97,108,108,111,119,32,110,115,32,115,104,111,112,32,115,101,114,118,105,99,101,32,50,10]=y:=⟨_,rfl⟩
 rw[hst] at hpr
 have hst':(⟨([112,111,108,105,99,121,32,51,32,100,101,110,121,10,32,32,114,117,108,101,10,32,32,32,32,116,111,32,112,111,114,116,115,32,56,48,32,109,101,116,104]:List UInt8).append [111,100,115,32,71,69,84,10,112,111,108,105,99,121,32,52,32,97,108,108,111,119,32,110,115,32,115,104,111,112,32,115,101,114,118,105,99,101,32,50,10] |>.toArray⟩:ByteArray)=st:=by rw[←hst];rfl
 obtain⟨pt,hpt⟩:∃y,strB [112,111,108,105,99,121,32,48,51,32,100,101,110,121,10]=y:=⟨_,rfl⟩
 rw[hpt] at hps
 have hpt':(⟨#[112,111,108,105,99,121,32,48,51,32,100,101,110,121,10]⟩:ByteArray)=pt:=hpt
 have heq:(st.toList==st.toList)=true:=by simp
 have HPS:=Lib.hid hps;have HW6:=Lib.hid hW6
 clear hps hst hpt hW6
 go_enter Tryz.func9,Tryz.ntmps9
 rw[hpt']
 first|rw[hst']|skip
 go_wp2_with fail
 refine hpr.mono ?_
 rintro e w1 ⟨rfl,f1⟩
 clear hpr
 go_wp2_with fail
 refine (HPS.out w1 (HW6.out.below HW6.out.lt f1)).mono ?_
 rintro e w2 ⟨f2,hr⟩
 have FF:=((exW_below w).trans (f1.mono (exW_below w).size)).trans (f2.mono (Nat.le_trans (exW_below w).size f1.size))
 rcases hr with ⟨L,v,hL,_⟩|⟨m,_,hm,rfl⟩
 ·rw[ex_parse] at hL;cases hL
 rw[ex_parse] at hm
 injection hm with hm
 subst hm
 clear f1 f2
 go_wp2_with fail
 go_ret
 exact⟨rfl,FF⟩
end Go.Proofs.YtpcdmbajfmnoiaaGreatDoor
