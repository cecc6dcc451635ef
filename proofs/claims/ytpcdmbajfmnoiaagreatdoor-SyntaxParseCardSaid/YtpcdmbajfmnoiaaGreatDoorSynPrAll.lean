/- A term's text by the program: match.kinds, match.Print, syntax.term. No condition. strconv.FormatUint at base 10: a number's digits. Condition: the library's variables hold what they should. The first line of a policy by the program: syntax.first. Condition: the library's variables hold what they should. A word and a list behind it, or nothing, by the program: syntax.list at Term, Cidr, int. Condition: the library's variables hold what they should. A rule's lines by the program: syntax.rule. Condition: the library's variables hold what they should. Policies' text by the program: syntax.Print. Condition: the library's variables hold what they should. What Print prints is the text of lines (XSynLaw); policies that may be are within Print's bounds. Plain, no condition. -/
import Derived.Test.YtpcdmbajfmnoiaaGreatDoorSynLaw
import Derived.Test.YtpcdmbajfmnoiaaGreatDoorFacts2
import Derived.Test.YtpcdmbajfmnoiaaGreatDoorAddrW
import Derived.Shelf.Strconv.Itoa3
import Derived.Lib.ItoaMem
import Derived.Test.YtpcdmbajfmnoiaaGreatDoorAddrPn
import Derived.Test.YtpcdmbajfmnoiaaGreatDoorOrder
namespace Go.Proofs.YtpcdmbajfmnoiaaGreatDoor
set_option linter.unusedVariables false
set_option linter.unusedSimpArgs false
open Go.RowKit
def fnV(f:Nat):Value:=.func (.func f) #[] #[]
def kd3(v:Value)(a b:List UInt8):List Value:=[v,.string (strB a),.string (strB b)]
def kdNo:List Value:=kd3 .nilFunc [] []
def kdAt(k:Nat):List Value:=if k=1 then kd3 (fnV 162) [] [] else if k=2 then kd3 (fnV 26) [] [42] else if k=3 then kd3 (fnV 163) [42] [] else if k=4 then kd3 (fnV 164) [42] [] else kdNo
def kdL:List Value:=kdNo++(kdAt 1++(kdAt 2++(kdAt 3++kdAt 4)))
def kdZ:List Value:=kdNo++(kdNo++(kdNo++(kdNo++kdNo)))
set_option maxRecDepth 100000 in
set_option maxHeartbeats 2000000 in
theorem kinds_any(w:World):Calls Tryz.prog 124 #[] w fun e w'=>e=.returned (.agg kdL.toArray)∧Below w.heap.size w w':=by
 have hi:(Tryz.prog.info? 166).map (·.size)=some kdL.length:=by kernel_rfl
 have Hi:=Lib.hid hi;clear hi
 have hone:kdL.all (·.oneCell')=true:=by rfl
 have HO:=Lib.hid hone;clear hone
 have hlen:kdZ.length=kdL.length:=rfl
 have HLen:=Lib.hid hlen;clear hlen
 have kb:Blk (w.alloc (.cells kdZ.toArray 166)) w.heap.size 166 kdZ:=Blk.of_new w 166 kdZ
 have f1:Below w.heap.size w (w.alloc (.cells kdZ.toArray 166)):=(Below.refl _ w).alloc (Nat.le_refl _) _
 have KB:=Lib.hid kb;clear kb
 go_enter Tryz.func124,Tryz.ntmps124
 go_wp2_with (first
  | (refine store_blk KB.out rfl 166 (.tmp 0) (.tmp 5) rfl rfl (us:=kdL) (by rfl) Hi.out HLen.out HO.out ?_;intro w' k2 hg))
 exact bodyPost_ret (k2.sized rfl _ rfl Tryz.underlying166 Hi.out) rfl ⟨rfl,f1.grown hg f1.size (by simp)⟩
theorem kdAt_len(k:Nat):(kdAt k).length=3:=by unfold kdAt;split<;>(try rfl);split<;>(try rfl);split<;>(try rfl);split<;>rfl
theorem kdAt_one(k:Nat):(kdAt k).all (·.oneCell')=true:=by unfold kdAt;split<;>(try rfl);split<;>(try rfl);split<;>(try rfl);split<;>rfl
def tmS(t:Tm):List UInt8:=if tmMay t then tmT t else []
theorem kdNo_arr:kdNo.toArray=#[.nilFunc,.string ⟨#[]⟩,.string ⟨#[]⟩]:=rfl
theorem strB_append(a b:List UInt8):strB a++strB b=strB (a++b):=by
 apply ByteArray.ext
 simp[strB]
set_option maxRecDepth 100000 in
set_option maxHeartbeats 4000000 in
theorem mPrint_any(K:Int)(l:List UInt8)(w:World)(hl:okS l):Calls Tryz.prog 73 #[.agg #[.int .i64 K,.string (strB l)]] w fun e w'=>e=.returned (.tuple #[.string (strB (tmS (K,l))),.int .i64 (if tmMay (K,l) then 0 else 1)])∧Below w.heap.size w w':=by
 have Hi:=Lib.hid (show (Tryz.prog.info? 165).map (·.size)=some 3 by kernel_rfl)
 have hm:=tMay_any K l
 have hix:∀(k:Int),(k=1∨k=2∨k=3∨k=4)→∀w:World,(Instr.index 166 (.agg kdL.toArray) (.int .i64 k)).run Tryz.prog w=.ok (.agg (kdAt k.toNat).toArray) w:=by
  rintro k (rfl|rfl|rfl|rfl)<;>intro w<;>kernel_rfl
 have hk4:tmMay (K,l)=true→K=1∨K=2∨K=3∨K=4:=by
  intro h
  unfold tmMay at h
  rw[Bool.and_eq_true] at h
  have h2:=h.2
  split at h2
  ·rename_i h4
   exact .inr (.inr (.inr h4))
  simp only[Bool.and_eq_true,decide_eq_true_eq] at h2
  omega
 have hts:tmMay (K,l)=true→tmS (K,l)=tmT (K,l):=fun h=>if_pos h
 have htn:tmMay (K,l)=false→tmS (K,l)=[]:=fun h=>if_neg (by rw[h];exact Bool.false_ne_true)
 have h4l:tmMay (K,l)=true→K=4→l=[]:=by
  intro h h4
  unfold tmMay at h
  rw[Bool.and_eq_true,if_pos h4] at h
  exact List.isEmpty_iff.1 h.2
 generalize tmMay (K,l)=r at *
 generalize hs:strB l=s at *
 have Hs:=Lib.hid hs;clear hs
 have Htn:=Lib.hid htn;have Hts:=Lib.hid hts;have H4l:=Lib.hid h4l;clear htn hts h4l
 have b0:(Blk (w.alloc (.cells #[.int .i64 K,.string s] 42)) w.heap.size 42 [.int .i64 K,.string s]):=Blk.of_new w 42 [.int .i64 K,.string s]
 have f0:Below w.heap.size w (w.alloc (.cells #[.int .i64 K,.string s] 42)):=(Below.refl _ w).alloc (Nat.le_refl _) _
 have KB0:=Lib.hid b0;clear b0
 go_enter Tryz.func73,Tryz.ntmps73
 go_wp2_with fail
 refine (hm _ (by unfold okS at hl;omega)).mono ?_
 rintro e w1 ⟨rfl,f1⟩
 have f2:=f0.trans (f1.mono f0.size)
 rcases r with _|_
 ·go_wp2_with fail
  go_ret2
  exact⟨by rw[Htn.out (by trivial)];rfl,f2⟩
 have b1:=(KB0.out.below f1 (by simp))
 replace hk4:=hk4 (by trivial)
 clear f0 f1 hm
 go_upto_region 3 with fail
 clear KB0
 have E0:∀u,Below w1.heap.size w1 u→u.cell? ⟨w.heap.size,0,none⟩=some (.int .i64 K):=fun u h=>(b1.below h b1.lt).cell 0
 have E1:∀u,Below w1.heap.size w1 u→u.cell? ⟨w.heap.size,1,none⟩=some (.string s):=fun u h=>(b1.below h b1.lt).cell 1
 clear b1
 refine F2.wp_region_facts (fun u=>Below w1.heap.size w1 u) [
   fun _ v _=>v=.agg kdL.toArray,
   fun _ v _=>v=.pointer (some ⟨w.heap.size,0,none⟩),
   fun _ v _=>v=.int .i64 K,
   fun _ v _=>v=.agg (kdAt K.toNat).toArray,
   fun _ v u=>∃g',v=.pointer (some ⟨g',0,none⟩)∧w1.heap.size≤g'∧Blk u g' 165 kdNo,
   fun xs _ u=>∃g',xs[1]?=some (.pointer (some ⟨g',0,none⟩))∧w1.heap.size≤g'∧Blk u g' 165 (kdAt K.toNat)] (fun u u'=>Below u.heap.size u u')
   [[],[],[1],[0,2],[],[3,4]] [[],[],[],[],[],[4]]
   (by kernel_rfl) (by kernel_rfl) ?_ (fun _ _ _ _ _ h=>h) ((Below.refl _ _).drew) ?_ ?_
 ·refine F2.hE_of (fun u u' h f=>f.trans (h.mono f.size)) ?_
  repeat' (first|exact F2.mono_nil|refine F2.mono_cons (fun xs v u u' h=>?_) ?_)
  all_goals first|exact _root_.id|(rintro ⟨g',e,h1,k⟩;exact⟨g',e,h1,k.below h k.lt⟩)
 ·refine F2.owed_cons (fun vs u hS hD N=>?_) ?_
  ·clear hD
   intro hN
   simp only[F2.fact,F2.layAt,F2.depOn,F2.dstOf,List.map_cons,List.map_nil,List.foldl_cons,List.foldl_nil,List.getD_cons_zero,List.getD_cons_succ,List.getElem?_cons_zero,List.getElem?_cons_succ,Option.bind_some] at hN ⊢
   go_simp
   refine (kinds_any u).mono ?_
   rintro e u' ⟨rfl,f⟩
   have hh:=hN _ _ rfl (.inl f)
   revert hh
   go_simp
  refine F2.owed_cons (fun vs u hS hD N=>?_) ?_
  ·clear hD
   intro hN
   simp only[F2.fact,F2.layAt,F2.depOn,F2.dstOf,List.map_cons,List.map_nil,List.foldl_cons,List.foldl_nil,List.getD_cons_zero,List.getD_cons_succ,List.getElem?_cons_zero,List.getElem?_cons_succ,Option.bind_some] at hN ⊢
   go_simp
   have hh:=hN _ _ rfl (.inl (Below.refl _ _))
   revert hh
   go_simp
  refine F2.owed_cons (fun vs u hS hD N=>?_) ?_
  ·have d1:=hD 1 (by decide)
   simp only[F2.fact,F2.layAt,F2.depOn,F2.dstOf,List.map_cons,List.map_nil,List.foldl_cons,List.foldl_nil,List.getD_cons_zero,List.getD_cons_succ,List.getElem?_cons_zero,List.getElem?_cons_succ,Option.bind_some] at d1
   clear hD
   intro hN
   simp only[F2.fact,F2.layAt,F2.depOn,F2.dstOf,List.map_cons,List.map_nil,List.foldl_cons,List.foldl_nil,List.getD_cons_zero,List.getD_cons_succ,List.getElem?_cons_zero,List.getElem?_cons_succ,Option.bind_some,d1] at hN ⊢
   go_simp
   have e0:=E0 _ hS
   go_simp
   have hh:=hN _ _ rfl (.inl (Below.refl _ _))
   revert hh
   go_simp
  refine F2.owed_cons (fun vs u hS hD N=>?_) ?_
  ·have d0:=hD 0 (by decide)
   simp only[F2.fact,F2.layAt,F2.depOn,F2.dstOf,List.map_cons,List.map_nil,List.foldl_cons,List.foldl_nil,List.getD_cons_zero,List.getD_cons_succ,List.getElem?_cons_zero,List.getElem?_cons_succ,Option.bind_some] at d0
   have d2:=hD 2 (by decide)
   simp only[F2.fact,F2.layAt,F2.depOn,F2.dstOf,List.map_cons,List.map_nil,List.foldl_cons,List.foldl_nil,List.getD_cons_zero,List.getD_cons_succ,List.getElem?_cons_zero,List.getElem?_cons_succ,Option.bind_some] at d2
   clear hD
   intro hN
   simp only[F2.fact,F2.layAt,F2.depOn,F2.dstOf,List.map_cons,List.map_nil,List.foldl_cons,List.foldl_nil,List.getD_cons_zero,List.getD_cons_succ,List.getElem?_cons_zero,List.getElem?_cons_succ,Option.bind_some,d0,d2] at hN ⊢
   go_simp
   have ix:=hix K hk4
   go_simp
   have hh:=hN _ _ rfl (.inl (Below.refl _ _))
   revert hh
   go_simp
  refine F2.owed_cons (fun vs u hS hD N=>?_) ?_
  ·clear hD
   intro hN
   simp only[F2.fact,F2.layAt,F2.depOn,F2.dstOf,List.map_cons,List.map_nil,List.foldl_cons,List.foldl_nil,List.getD_cons_zero,List.getD_cons_succ,List.getElem?_cons_zero,List.getElem?_cons_succ,Option.bind_some] at hN ⊢
   go_simp
   have kk:Blk (u.alloc (.cells kdNo.toArray 165)) u.heap.size 165 kdNo:=Blk.newAt rfl _ _
   have hh:=hN _ _ ⟨_,rfl,hS.size,kk⟩ (.inl ((Below.refl _ u).alloc (Nat.le_refl _) _))
   revert hh
   clear hN
   simp only[kdNo_arr]
   go_simp
  refine F2.owed_cons (fun vs u hS hD N=>?_) ?_
  ·have d3:=hD 3 (by decide)
   simp only[F2.fact,F2.layAt,F2.depOn,F2.dstOf,List.map_cons,List.map_nil,List.foldl_cons,List.foldl_nil,List.getD_cons_zero,List.getD_cons_succ,List.getElem?_cons_zero,List.getElem?_cons_succ,Option.bind_some] at d3
   have d4:=hD 4 (by decide)
   simp only[F2.fact,F2.layAt,F2.depOn,F2.dstOf,List.map_cons,List.map_nil,List.foldl_cons,List.foldl_nil,List.getD_cons_zero,List.getD_cons_succ,List.getElem?_cons_zero,List.getElem?_cons_succ,Option.bind_some] at d4
   obtain⟨g',e4,hg',kg⟩:=d4
   clear hD
   intro hN
   simp only[F2.fact,F2.layAt,F2.depOn,F2.dstOf,List.map_cons,List.map_nil,List.foldl_cons,List.foldl_nil,List.getD_cons_zero,List.getD_cons_succ,List.getElem?_cons_zero,List.getElem?_cons_succ,Option.bind_some,d3,e4] at hN ⊢
   rw[if_pos (by rfl)]
   refine wp_store_blk kg 165 (.tmp 4) (.tmp 11) rfl rfl (us:=kdAt K.toNat) rfl (by rw[kdAt_len];exact Hi.out) (by rw[kdAt_len];rfl) (kdAt_one _) ?_
   intro u' k' hg2
   refine hN _ _ ⟨g',rfl,hg',k'⟩ (.inr ⟨hS.grown hg2 hS.size (by intro q hq2;injection hq2 with hq2;omega),fun j xs v h1 h2 h3=>?_⟩)
   match j with
   | 4=>exact absurd (by decide) h2
   | 5=>exact absurd rfl h1
   | 0|1|2|3|_+6=>exact _root_.id
  exact F2.owed_nil
 intro vs u hS hF
 have d5:=hF 5 (by decide) (by decide)
 simp only[F2.fact,F2.layAt,F2.depOn,F2.dstOf,List.map_cons,List.map_nil,List.foldl_cons,List.foldl_nil,List.getD_cons_zero,List.getD_cons_succ,List.getElem?_cons_zero,List.getElem?_cons_succ,Option.bind_some] at d5
 obtain⟨g',e5,hg',kg⟩:=d5
 replace e5:=Option.some.inj e5
 clear hF
 simp only[List.length_cons,List.length_nil,Nat.reduceAdd,List.range,List.range.loop,F2.fact,F2.layAt,F2.depOn,F2.dstOf,List.map_cons,List.map_nil,List.foldl_cons,List.foldl_nil,List.getD_cons_zero,List.getD_cons_succ,List.getElem?_cons_zero,List.getElem?_cons_succ,Option.bind_some,e5]
 go_simp
 have e1:=E1 _ hS
 have f3:=f2.trans (hS.mono f2.size)
 clear E0 E1 hS f2
 obtain⟨v,b,a,hkd,hb,ha,htm⟩:∃v b a,kdAt K.toNat=kd3 v b a∧b.length≤1∧a.length≤1∧tmT (K,l)=b++l++a:=by
  rcases hk4 with rfl|rfl|rfl|rfl
  ·exact⟨_,[],[],rfl,by simp,by simp,by simp[tmT]⟩
  ·exact⟨_,[],[42],rfl,by simp,by simp,by simp[tmT]⟩
  ·exact⟨_,[42],[],rfl,by simp,by simp,by simp[tmT]⟩
  exact⟨_,[42],[],rfl,by simp,by simp,by rw[H4l.out (by trivial) rfl];simp[tmT]⟩
 rw[hkd] at kg
 have c1:=kg.cell 1
 have c2:=kg.cell 2
 simp only[kd3,List.getElem?_cons_succ,List.getElem?_cons_zero] at c1 c2
 have sz:s.size≤1000000:=by rw[←Hs.out,strB_size];exact hl
 have q1:¬9223372036854775807<(strB b).size+s.size:=by rw[strB_size];omega
 have q2:¬9223372036854775807<(strB b).size+s.size+(strB a).size:=by rw[strB_size,strB_size];omega
 clear kg
 go_wp2_with fail
 go_ret2
 refine⟨?_,f3⟩
 rw[Hts.out (by trivial),htm,←Hs.out,strB_append,strB_append]
 rfl
theorem term_any(t:Tm)(w:World)(hl:okS t.2):Calls Tryz.prog 39 #[.agg (tmC t).toArray] w fun e w'=>e=.returned (.string (strB (tmS t)))∧Below w.heap.size w w':=by
 obtain⟨K,l⟩:=t
 have hm:=mPrint_any K l
 have kb:=Blk.of_new w 42 [.int .i64 K,.string (strB l)]
 have f0:Below w.heap.size w (w.alloc (.cells #[.int .i64 K,.string (strB l)] 42)):=(Below.refl _ w).alloc (Nat.le_refl _) _
 unfold tmC
 simp only at hl ⊢
 have KB:=Lib.hid kb;clear kb
 generalize (if tmMay (K,l)=true then (0:Int) else 1)=E at hm
 go_enter Tryz.func39,Tryz.ntmps39
 go_wp2_with fail
 refine (hm _ hl).mono ?_
 rintro e w1 ⟨rfl,f1⟩
 go_wp2_with fail
 go_ret
 exact⟨rfl,f0.trans (f1.mono f0.size)⟩
open Go.RowKit Go.Sort
abbrev encB:UInt8→Value:=fun(b:UInt8)=>Value.int .u8 (b.toNat:Int)
theorem holds_zero0(w:World)(T:TypeId)(nd:Nat)(hs:nd≤24):Holds encB (w.alloc (.cells Lib.zeros24 T)) w.heap.size 0 (Array.replicate nd (0:UInt8)):=fun j hj=>by
 have hj':j<nd:=by simpa using hj
 refine⟨?_,World.frozen?_alloc_new _ _ _ _⟩
 rw[World.cell?_alloc_new,Lib.zeros24_at _ (by omega),getElem!_pos _ j hj]
 simp[encB]
theorem fin0(w:World)(o:Obj)(dk:Array UInt8)(k:Nat):Grn w ((putRow encB (w.alloc o) w.heap.size 0 dk).drewN k):=by
 rw[alloc_eq_grow]
 obtain⟨os',_,e⟩:=putRow_grow_new encB w #[o] w.heap.size 0 dk (Nat.le_refl _)
 exact⟨k,os',by rw[e];rfl⟩
set_option maxRecDepth 100000 in
set_option maxHeartbeats 4000000 in
theorem fmtU_any(u:Nat)(hu64:u<18446744073709551616)(w:World)(hW:LdW w) :
  Calls Tryz.prog 71 #[.int .u64 (u:Int),.int .i64 10] w fun e w'=>e=.returned (.string (strB (Lib.decDigits u)))∧Grn w w':=by
 by_cases hs:u<100
 ·have d1:decide ((u:Int)<100)=true:=by simp;omega
  have hu0:IntKind.i64.wrap (u:Int)=(u:Int):=IntWalk.i64_in _ (by omega)
  have hsm:∀w',Calls Tryz.prog 116 #[.int .i64 (u:Int)] w' fun e w''=>e=.returned (.string ⟨(Lib.decDigits u).toArray⟩)∧w''=w':=fun w'=>Any.internal_strconv_small { laysM171 with } u hs w'
  go_enter Tryz.func71,Tryz.ntmps71
  go_wp2_with fail
  refine (hsm _).mono ?_
  rintro e w' ⟨rfl,rfl⟩
  go_wp2_with fail
  go_ret
  exact⟨rfl,Grn.refl _⟩
 have d1:decide ((u:Int)<100)=false:=by simp;omega
 have hu1:1≤u:=by omega
 have hnd20:Lib.nDigits u≤20:=by have:=Lib.numDigits_eq u hu1 hu64;split at this<;>omega
 have hal:Tryz.prog.arrayLen 150=24:=by kernel_rfl
 have hsl2:∀W,(Instr.sliceAt 150 (.pointer (some ⟨w.heap.size,0,none⟩)) none (some (.int .i64 (Lib.nDigits u:Int))) none).run Tryz.prog W=.ok (.slice (some ⟨w.heap.size,0,none⟩) (Lib.nDigits u) 24) W:=fun W=>by
  rw[run_sliceAt_array_h W 150 ⟨w.heap.size,0,none⟩ (by kernel_rfl) .i64 (Lib.nDigits u:Int) (by omega) (by rw[hal];omega)]
  go_simp
 have hH0:=holds_zero0 w 150 (Lib.nDigits u) (by omega)
 have hnd : ∀ w', Lib.TabIs Tryz.prog w' "internal/strconv.uint64pow10" .u64 Lib.pow10Tab → Calls Tryz.prog 117 #[.int .u64 (u : Int)] w' fun e w'' => e = .returned (.int .i64 (Lib.nDigits u)) ∧ w'' = w' := fun w' h => Any.internal_strconv_numDigits { laysM171 with } u hu1 hu64 w' h
 have hfmt:Calls Tryz.prog 118 #[.slice (some ⟨w.heap.size,0,none⟩) (Array.replicate (Lib.nDigits u) (0:UInt8)).size 24,.int .u64 (u:Int)] (w.alloc (.cells Lib.zeros24 150)) fun e w' =>
   e=.returned (.tuple #[])∧∃(n v':Nat)(dk:Array UInt8),w'=(putRow encB (w.alloc (.cells Lib.zeros24 150)) w.heap.size 0 dk).drewN n∧Lib.FmtInv (Array.replicate (Lib.nDigits u) (0:UInt8)).size u 0 v' dk :=
  Any.internal_strconv_formatBase10 { laysM171 with } w.heap.size 0 24 u (Array.replicate (Lib.nDigits u) 0) (w.alloc (.cells Lib.zeros24 150)) hH0 (by rw[Array.size_replicate];exact Lib.lt_pow_nDigits u) hu64 (by rw[Array.size_replicate];omega)
 rw[Array.size_replicate] at hfmt
 have HH0:=Lib.hid hH0
 have htab:=hW.tab
 have HT:=Lib.hid (Lib.tabIs_alloc htab (.cells Lib.zeros24 150))
 clear hH0 hal htab
 go_enter Tryz.func71,Tryz.ntmps71
 go_wp2_with fail
 refine (hnd _ HT.out).mono ?_
 rintro e w' ⟨rfl,rfl⟩
 go_wp2_with fail
 refine hfmt.mono ?_
 rintro e w' ⟨rfl,k,v',dk,rfl,hF⟩
 have hcv:(convert 123 9 (.slice (some ⟨w.heap.size,0,none⟩) (Lib.nDigits u) 24)).run Tryz.prog ((putRow encB (w.alloc (.cells Lib.zeros24 150)) w.heap.size 0 dk).drewN k)=.ok (.string ⟨(Lib.decDigits u).toArray⟩) ((putRow encB (w.alloc (.cells Lib.zeros24 150)) w.heap.size 0 dk).drewN k):=by
  have h:=run_convert_bytes_back (P:=Tryz.prog) ((putRow encB (w.alloc (.cells Lib.zeros24 150)) w.heap.size 0 dk).drewN k) 123 9 5 ⟨w.heap.size,0,none⟩ 24 (Lib.decDigits u) Tryz.underlying123 Tryz.underlying5 Tryz.underlying9 (fun j hj=>by
   rw[Lib.row_is_numeral hF j hj,Lib.add_plain,World.cell?_drewN]
   exact cell?_putRow encB _ w.heap.size 0 _ dk HH0.out (by rw[hF.size,Array.size_replicate]) j (by rw[hF.size];rw[Lib.decDigits_length] at hj;exact hj))
  rw[Lib.decDigits_length] at h
  exact h
 have hfin:=fin0 w (.cells Lib.zeros24 150) dk k
 generalize (putRow encB (w.alloc (.cells Lib.zeros24 150)) w.heap.size 0 dk).drewN k=we at *
 go_wp2_with fail
 go_ret
 exact⟨rfl,hfin⟩
theorem fmtUint_any(u:Nat)(hu64:u<18446744073709551616)(w:World)(hW:LdW w) :
  Calls Tryz.prog 37 #[.int .u64 (u:Int),.int .i64 10] w fun e w'=>e=.returned (.string (strB (Lib.decDigits u)))∧Below w.heap.size w w':=by
 have hf:=fmtU_any u hu64 w hW
 go_enter Tryz.func37,Tryz.ntmps37
 go_wp2_with fail
 refine hf.mono ?_
 rintro e w' ⟨rfl,f⟩
 go_wp2_with fail
 go_ret
 exact⟨rfl,f.below⟩
def firstS(p:Po):List UInt8:=lineOf (wordsP p)++[10]
theorem dec_len20{u:Nat}(h:u<18446744073709551616):(Lib.decDigits u).length≤20:=by
 by_cases h1:1≤u
 ·rw[Lib.decDigits_length]
  have:=Lib.numDigits_eq u h1 h
  split at this<;>omega
 obtain rfl:u=0:=by omega
 rw[Lib.decDigits]
 simp
theorem first_eq{p:Po}{b1 b2 b3:Bool}(h1:decide (p.deny=1)=b1)(h2:p.ns.isEmpty=b2)(h3:decide (0<p.service)=b3) :
  firstS p=[112,111,108,105,99,121,32]++Lib.decDigits p.id++(if b1 then [32,100,101,110,121] else [32,97,108,108,111,119])++((if b2 then [] else [32,110,115,32]++p.ns)++((if b3 then [32,115,101,114,118,105,99,101,32]++Lib.decDigits p.service else [])++[10])):=by
 have k1:(p.deny=1)=(b1=true):=by subst h1;simp
 have k2:(p.ns=[])=(b2=true):=by subst h2;simp
 have k3:(p.service=0)=(b3=false):=by subst h3;simp
 unfold firstS lineOf wordsP
 simp only[k1,k2,k3]
 cases b1<;>cases b2<;>cases b3<;>simp[join_cons2,join_one,wPolicy,wAllow,wDeny,wNs,wService]
set_option maxRecDepth 100000 in
set_option maxHeartbeats 8000000 in
theorem first_any(p:Po)(A:Option Addr)(n c:Nat)(w:World)(hW:LdW w)(k1:p.id<18446744073709551616)(k2:okS p.ns)(k3:p.service<18446744073709551616) :
  Calls Tryz.prog 18 #[.agg #[.int .u64 (p.id:Int),.string (strB p.ns),.int .u64 (p.service:Int),.int .i64 p.deny,.slice A n c]] w fun e w'=>e=.returned (.string (strB (firstS p)))∧Below w.heap.size w w':=by
 obtain⟨r,hr⟩:∃r,firstS p=r:=⟨_,rfl⟩
 rw[hr]
 obtain⟨id,ns,sv,dn,rules⟩:=p
 simp only at k1 k2 k3 ⊢
 have hlt:=hW.lt
 obtain⟨b1,x1⟩:∃b,decide (dn=1)=b:=⟨_,rfl⟩
 obtain⟨b2,x2⟩:∃b,ns.isEmpty=b:=⟨_,rfl⟩
 obtain⟨b3,x3⟩:∃b,decide (0<sv)=b:=⟨_,rfl⟩
 have hre:=(first_eq (p:=⟨id,ns,sv,dn,rules⟩) x1 x2 x3).symm.trans hr
 simp only at hre
 clear hr
 have y1:(dn==1)=b1:=by rw[←x1];rfl
 have y2:(strB ns).toList.isEmpty=b2:=by rw[strB_toList];exact x2
 have y3:decide ((0:Int)<(sv:Int))=b3:=by rw[←x3];exact decide_eq_decide.2 (by omega)
 have y4:decide (0<sv)=b3:=x3
 clear x1 x2 x3
 have hf1:=fun w h=>fmtUint_any id k1 w h
 have hf2:=fun w h=>fmtUint_any sv k3 w h
 have hs1:(strB (Lib.decDigits id)).size≤20:=by rw[strB_size];exact dec_len20 k1
 have hs2:(strB (Lib.decDigits sv)).size≤20:=by rw[strB_size];exact dec_len20 k3
 have hs3:(strB ns).size≤1000000:=by rw[strB_size];exact k2
 have HRE:=Lib.hid hre;clear hre
 obtain⟨D,hD⟩:∃D,strB (Lib.decDigits id)=D:=⟨_,rfl⟩
 obtain⟨E,hE⟩:∃E,strB (Lib.decDigits sv)=E:=⟨_,rfl⟩
 obtain⟨S,hS⟩:∃S,strB ns=S:=⟨_,rfl⟩
 rw[hD] at hf1 hs1
 rw[hE] at hf2 hs2
 rw[hS] at y2 hs3 ⊢
 have HD:=Lib.hid hD;have HE:=Lib.hid hE;have HS:=Lib.hid hS
 clear hD hE hS
 obtain⟨wb,hwb⟩:∃wb,w.alloc (.cells #[.int .u64 (id:Int),.string S,.int .u64 (sv:Int),.int .i64 dn,.slice A n c] 39)=wb:=⟨_,rfl⟩
 have f0:Below w.heap.size w wb:=by rw[←hwb];exact (Below.refl _ _).alloc (Nat.le_refl _) _
 have bl:=Blk.newAt (w:=w) rfl 39 #[.int .u64 (id:Int),.string S,.int .u64 (sv:Int),.int .i64 dn,.slice A n c]
 rw[hwb] at bl
 have HB:=Lib.hid (fun(u:World)(h:Below wb.heap.size wb u)=>bl.below h bl.lt)
 have e0:wb.cell? ⟨w.heap.size,0,none⟩=some (.int .u64 (id:Int)):=bl.cell 0
 have fb:Below wb.heap.size wb wb:=Below.refl _ _
 clear bl
 go_enter Tryz.func18,Tryz.ntmps18
 cases b1
 ·cases b2
  ·cases b3
   ·go_wp2_with fail
    clear hwb
    refine (hf1 _ (hW.below hlt (f0.trans (fb.mono f0.size)))).mono ?_
    rintro e w2 ⟨rfl,g2⟩
    have f2:=fb.trans (g2.mono fb.size)
    clear e0 g2
    have kk:=HB.out _ f2
    have e0:=kk.cell 0
    have e1:=kk.cell 1
    have e2:=kk.cell 2
    have e3:=kk.cell 3
    have e4:=kk.cell 4
    simp only[List.getElem?_toArray,List.getElem?_cons_zero,List.getElem?_cons_succ] at e0 e1 e2 e3 e4
    clear kk
    go_wp2_with fail
    go_ret
    refine⟨congrArg (fun x=>Ending.returned (Value.string x)) ?_,f0.trans (f2.mono f0.size)⟩
    rw[←HRE.out,←HD.out,←HS.out]
    apply ByteArray.ext
    simp[strB]
   go_wp2_with fail
   clear hwb
   refine (hf1 _ (hW.below hlt (f0.trans (fb.mono f0.size)))).mono ?_
   rintro e w2 ⟨rfl,g2⟩
   have f2:=fb.trans (g2.mono fb.size)
   clear e0 g2
   have kk:=HB.out _ f2
   have e0:=kk.cell 0
   have e1:=kk.cell 1
   have e2:=kk.cell 2
   have e3:=kk.cell 3
   have e4:=kk.cell 4
   simp only[List.getElem?_toArray,List.getElem?_cons_zero,List.getElem?_cons_succ] at e0 e1 e2 e3 e4
   clear kk
   go_wp2_with fail
   refine (hf2 _ (hW.below hlt (f0.trans (f2.mono f0.size)))).mono ?_
   rintro e w3 ⟨rfl,g3⟩
   have f3:=f2.trans (g3.mono f2.size)
   clear e0 e1 e2 e3 e4 g3
   have kk:=HB.out _ f3
   have e0:=kk.cell 0
   have e1:=kk.cell 1
   have e2:=kk.cell 2
   have e3:=kk.cell 3
   have e4:=kk.cell 4
   simp only[List.getElem?_toArray,List.getElem?_cons_zero,List.getElem?_cons_succ] at e0 e1 e2 e3 e4
   clear kk
   go_wp2_with fail
   go_ret
   refine⟨congrArg (fun x=>Ending.returned (Value.string x)) ?_,f0.trans (f3.mono f0.size)⟩
   rw[←HRE.out,←HD.out,←HS.out,←HE.out]
   apply ByteArray.ext
   simp[strB]
  cases b3
  ·go_wp2_with fail
   clear hwb
   refine (hf1 _ (hW.below hlt (f0.trans (fb.mono f0.size)))).mono ?_
   rintro e w2 ⟨rfl,g2⟩
   have f2:=fb.trans (g2.mono fb.size)
   clear e0 g2
   have kk:=HB.out _ f2
   have e0:=kk.cell 0
   have e1:=kk.cell 1
   have e2:=kk.cell 2
   have e3:=kk.cell 3
   have e4:=kk.cell 4
   simp only[List.getElem?_toArray,List.getElem?_cons_zero,List.getElem?_cons_succ] at e0 e1 e2 e3 e4
   clear kk
   go_wp2_with fail
   go_ret
   refine⟨congrArg (fun x=>Ending.returned (Value.string x)) ?_,f0.trans (f2.mono f0.size)⟩
   rw[←HRE.out,←HD.out]
   apply ByteArray.ext
   simp[strB]
  go_wp2_with fail
  clear hwb
  refine (hf1 _ (hW.below hlt (f0.trans (fb.mono f0.size)))).mono ?_
  rintro e w2 ⟨rfl,g2⟩
  have f2:=fb.trans (g2.mono fb.size)
  clear e0 g2
  have kk:=HB.out _ f2
  have e0:=kk.cell 0
  have e1:=kk.cell 1
  have e2:=kk.cell 2
  have e3:=kk.cell 3
  have e4:=kk.cell 4
  simp only[List.getElem?_toArray,List.getElem?_cons_zero,List.getElem?_cons_succ] at e0 e1 e2 e3 e4
  clear kk
  go_wp2_with fail
  refine (hf2 _ (hW.below hlt (f0.trans (f2.mono f0.size)))).mono ?_
  rintro e w3 ⟨rfl,g3⟩
  have f3:=f2.trans (g3.mono f2.size)
  clear e0 e1 e2 e3 e4 g3
  have kk:=HB.out _ f3
  have e0:=kk.cell 0
  have e1:=kk.cell 1
  have e2:=kk.cell 2
  have e3:=kk.cell 3
  have e4:=kk.cell 4
  simp only[List.getElem?_toArray,List.getElem?_cons_zero,List.getElem?_cons_succ] at e0 e1 e2 e3 e4
  clear kk
  go_wp2_with fail
  go_ret
  refine⟨congrArg (fun x=>Ending.returned (Value.string x)) ?_,f0.trans (f3.mono f0.size)⟩
  rw[←HRE.out,←HD.out,←HE.out]
  apply ByteArray.ext
  simp[strB]
 cases b2
 ·cases b3
  ·go_wp2_with fail
   clear hwb
   refine (hf1 _ (hW.below hlt (f0.trans (fb.mono f0.size)))).mono ?_
   rintro e w2 ⟨rfl,g2⟩
   have f2:=fb.trans (g2.mono fb.size)
   clear e0 g2
   have kk:=HB.out _ f2
   have e0:=kk.cell 0
   have e1:=kk.cell 1
   have e2:=kk.cell 2
   have e3:=kk.cell 3
   have e4:=kk.cell 4
   simp only[List.getElem?_toArray,List.getElem?_cons_zero,List.getElem?_cons_succ] at e0 e1 e2 e3 e4
   clear kk
   go_wp2_with fail
   refine (hf1 _ (hW.below hlt (f0.trans (f2.mono f0.size)))).mono ?_
   rintro e w3 ⟨rfl,g3⟩
   have f3:=f2.trans (g3.mono f2.size)
   clear e0 e1 e2 e3 e4 g3
   have kk:=HB.out _ f3
   have e0:=kk.cell 0
   have e1:=kk.cell 1
   have e2:=kk.cell 2
   have e3:=kk.cell 3
   have e4:=kk.cell 4
   simp only[List.getElem?_toArray,List.getElem?_cons_zero,List.getElem?_cons_succ] at e0 e1 e2 e3 e4
   clear kk
   go_wp2_with fail
   go_ret
   refine⟨congrArg (fun x=>Ending.returned (Value.string x)) ?_,f0.trans (f3.mono f0.size)⟩
   rw[←HRE.out,←HD.out,←HS.out]
   apply ByteArray.ext
   simp[strB]
  go_wp2_with fail
  clear hwb
  refine (hf1 _ (hW.below hlt (f0.trans (fb.mono f0.size)))).mono ?_
  rintro e w2 ⟨rfl,g2⟩
  have f2:=fb.trans (g2.mono fb.size)
  clear e0 g2
  have kk:=HB.out _ f2
  have e0:=kk.cell 0
  have e1:=kk.cell 1
  have e2:=kk.cell 2
  have e3:=kk.cell 3
  have e4:=kk.cell 4
  simp only[List.getElem?_toArray,List.getElem?_cons_zero,List.getElem?_cons_succ] at e0 e1 e2 e3 e4
  clear kk
  go_wp2_with fail
  refine (hf1 _ (hW.below hlt (f0.trans (f2.mono f0.size)))).mono ?_
  rintro e w3 ⟨rfl,g3⟩
  have f3:=f2.trans (g3.mono f2.size)
  clear e0 e1 e2 e3 e4 g3
  have kk:=HB.out _ f3
  have e0:=kk.cell 0
  have e1:=kk.cell 1
  have e2:=kk.cell 2
  have e3:=kk.cell 3
  have e4:=kk.cell 4
  simp only[List.getElem?_toArray,List.getElem?_cons_zero,List.getElem?_cons_succ] at e0 e1 e2 e3 e4
  clear kk
  go_wp2_with fail
  refine (hf2 _ (hW.below hlt (f0.trans (f3.mono f0.size)))).mono ?_
  rintro e w4 ⟨rfl,g4⟩
  have f4:=f3.trans (g4.mono f3.size)
  clear e0 e1 e2 e3 e4 g4
  have kk:=HB.out _ f4
  have e0:=kk.cell 0
  have e1:=kk.cell 1
  have e2:=kk.cell 2
  have e3:=kk.cell 3
  have e4:=kk.cell 4
  simp only[List.getElem?_toArray,List.getElem?_cons_zero,List.getElem?_cons_succ] at e0 e1 e2 e3 e4
  clear kk
  go_wp2_with fail
  go_ret
  refine⟨congrArg (fun x=>Ending.returned (Value.string x)) ?_,f0.trans (f4.mono f0.size)⟩
  rw[←HRE.out,←HD.out,←HS.out,←HE.out]
  apply ByteArray.ext
  simp[strB]
 cases b3
 ·go_wp2_with fail
  clear hwb
  refine (hf1 _ (hW.below hlt (f0.trans (fb.mono f0.size)))).mono ?_
  rintro e w2 ⟨rfl,g2⟩
  have f2:=fb.trans (g2.mono fb.size)
  clear e0 g2
  have kk:=HB.out _ f2
  have e0:=kk.cell 0
  have e1:=kk.cell 1
  have e2:=kk.cell 2
  have e3:=kk.cell 3
  have e4:=kk.cell 4
  simp only[List.getElem?_toArray,List.getElem?_cons_zero,List.getElem?_cons_succ] at e0 e1 e2 e3 e4
  clear kk
  go_wp2_with fail
  refine (hf1 _ (hW.below hlt (f0.trans (f2.mono f0.size)))).mono ?_
  rintro e w3 ⟨rfl,g3⟩
  have f3:=f2.trans (g3.mono f2.size)
  clear e0 e1 e2 e3 e4 g3
  have kk:=HB.out _ f3
  have e0:=kk.cell 0
  have e1:=kk.cell 1
  have e2:=kk.cell 2
  have e3:=kk.cell 3
  have e4:=kk.cell 4
  simp only[List.getElem?_toArray,List.getElem?_cons_zero,List.getElem?_cons_succ] at e0 e1 e2 e3 e4
  clear kk
  go_wp2_with fail
  go_ret
  refine⟨congrArg (fun x=>Ending.returned (Value.string x)) ?_,f0.trans (f3.mono f0.size)⟩
  rw[←HRE.out,←HD.out]
  apply ByteArray.ext
  simp[strB]
 go_wp2_with fail
 clear hwb
 refine (hf1 _ (hW.below hlt (f0.trans (fb.mono f0.size)))).mono ?_
 rintro e w2 ⟨rfl,g2⟩
 have f2:=fb.trans (g2.mono fb.size)
 clear e0 g2
 have kk:=HB.out _ f2
 have e0:=kk.cell 0
 have e1:=kk.cell 1
 have e2:=kk.cell 2
 have e3:=kk.cell 3
 have e4:=kk.cell 4
 simp only[List.getElem?_toArray,List.getElem?_cons_zero,List.getElem?_cons_succ] at e0 e1 e2 e3 e4
 clear kk
 go_wp2_with fail
 refine (hf1 _ (hW.below hlt (f0.trans (f2.mono f0.size)))).mono ?_
 rintro e w3 ⟨rfl,g3⟩
 have f3:=f2.trans (g3.mono f2.size)
 clear e0 e1 e2 e3 e4 g3
 have kk:=HB.out _ f3
 have e0:=kk.cell 0
 have e1:=kk.cell 1
 have e2:=kk.cell 2
 have e3:=kk.cell 3
 have e4:=kk.cell 4
 simp only[List.getElem?_toArray,List.getElem?_cons_zero,List.getElem?_cons_succ] at e0 e1 e2 e3 e4
 clear kk
 go_wp2_with fail
 refine (hf2 _ (hW.below hlt (f0.trans (f3.mono f0.size)))).mono ?_
 rintro e w4 ⟨rfl,g4⟩
 have f4:=f3.trans (g4.mono f3.size)
 clear e0 e1 e2 e3 e4 g4
 have kk:=HB.out _ f4
 have e0:=kk.cell 0
 have e1:=kk.cell 1
 have e2:=kk.cell 2
 have e3:=kk.cell 3
 have e4:=kk.cell 4
 simp only[List.getElem?_toArray,List.getElem?_cons_zero,List.getElem?_cons_succ] at e0 e1 e2 e3 e4
 clear kk
 go_wp2_with fail
 go_ret
 refine⟨congrArg (fun x=>Ending.returned (Value.string x)) ?_,f0.trans (f4.mono f0.size)⟩
 rw[←HRE.out,←HD.out,←HE.out]
 apply ByteArray.ext
 simp[strB]
def listS(word:List UInt8)(M:List (List UInt8)):List UInt8:=if M=[] then [] else 32::(word++32::Lib.join M [44])
theorem join_anyC(A:Option Addr)(n c:Nat)(L:List (List UInt8))(w:World)(h:RdR sC 1 w w.heap.size A n L)(hc:n≤c)(hn:0<n)(hn2:n≤1000000)(hj:(Lib.join L [44]).length≤1000000) :
  Calls Tryz.prog 72 #[.slice A n c,.string ⟨#[44]⟩] w fun e w'=>e=.returned (.string (strB (Lib.join L [44])))∧Below w.heap.size w w':=by
 obtain⟨hl,h⟩:=h
 obtain⟨b,off,rfl,hb,hcell⟩:=h hn
 have hm:(L.map strB).map (·.data.toList)=L:=by
  rw[List.map_map]
  conv=>rhs;rw[←List.map_id L]
  refine List.map_congr_left fun x _=>?_
  simp[strB]
 have hk:=strings_Join b off c (L.map strB) ⟨#[44]⟩ w (fun j x hx=>?_) hb (by rw[List.length_map];omega) (by rw[List.length_map];omega) (by rw[hm];exact Nat.le_trans hj (by omega))
 ·rw[List.length_map,hl,hm] at hk
  exact hk
 rw[List.getElem?_map] at hx
 obtain⟨y,hy,rfl⟩:=Option.map_eq_some_iff.1 hx
 obtain⟨hj,rfl⟩:=List.getElem?_eq_some_iff.1 hy
 have:=hcell j hj 0 _ rfl
 rwa [Nat.mul_one,Nat.add_zero] at this
theorem list_eq(word J:List UInt8):(⟨#[32]⟩:ByteArray)++strB word++⟨#[32]⟩++strB J=strB (32::(word++32::J)):=by
 apply ByteArray.ext
 simp[strB]
theorem take_map_succ{α β:Type}(f:α→β)(L:List α)(k:Nat)(h:k<L.length):(L.map f).take k++[f L[k]]=(L.map f).take (k+1):=by
 rw[List.take_add_one]
 simp[h]
set_option maxRecDepth 100000 in
set_option maxHeartbeats 4000000 in
theorem listTerm_any(word:List UInt8)(A:Option Addr)(n c:Nat)(L:List Tm)(w:World)(hW:LdW w)(h:RdR tmC 2 w w.heap.size A n L)(hn:n≤1000)(hok:∀x∈L,okS x.2)(hwd:word.length≤1000000)(hj:(Lib.join (L.map tmS) [44]).length≤1000000) :
  Calls Tryz.prog 38 #[.string (strB word),.slice A n c,.func (.func 39) #[] #[]] w fun e w'=>e=.returned (.string (strB (listS word (L.map tmS))))∧Below w.heap.size w w':=by
 have hl:=h.1
 have hlt:=hW.lt
 obtain⟨r,hr⟩:∃r,listS word (L.map tmS)=r:=⟨_,rfl⟩
 rw[hr]
 have HR:=Lib.hid hr;clear hr
 obtain⟨wd,hwd2⟩:∃wd,strB word=wd:=⟨_,rfl⟩
 have hwsz:wd.size≤1000000:=by rw[←hwd2,strB_size];exact hwd
 rw[hwd2]
 have HWD:=Lib.hid hwd2;clear hwd2
 by_cases h0:n=0
 ·subst h0
  go_enter Tryz.func38,Tryz.ntmps38
  go_wp2_with fail
  go_ret
  refine⟨?_,Below.refl _ _⟩
  rw[←HR.out,List.length_eq_zero_iff.1 hl]
  rfl
 have d0:decide ((n:Int)=0)=false:=by simp;omega
 have d00:((n:Int)==0)=false:=by rw[beq_eq_false_iff_ne];omega
 have hhf:=fun(k:Nat)(hk:k<L.length)(u:World)(hu:LdW u)=>term_any L[k] u (hok _ (List.getElem_mem hk))
 obtain⟨b,off,rfl,hb,hcell⟩:=h.2 (by omega)
 clear h
 generalize hM:L.map tmS=M at *
 have hMl:M.length=n:=by rw[←hM,List.length_map,hl]
 have HM:=Lib.hid hM;clear hM
 have HJ:=Lib.hid hj;clear hj
 go_enter Tryz.func38,Tryz.ntmps38
 go_wp2_with fail
 go_loopw [15,7] (fun v15 v7 wr=>∃(k:Nat)(A:Option Addr)(c:Nat),v15=.int .i64 k∧k≤n∧v7=.slice A k c∧OwnR sC 1 wr w.heap.size 9 (.slice A k c) (M.take k)∧Below w.heap.size w wr) (fun v15 _ _=>n-(intOf v15).toNat)
 case atStart=>exact⟨0,none,0,rfl,by omega,rfl,OwnR.nil,Below.refl _ _⟩
 case round =>
  obtain⟨k,A1,c1,rfl,hk,rfl,o1,f1⟩:=hrel
  by_cases hlt2:k<n
  ·have d5:decide ((k:Int)<(n:Int))=true:=by simp;omega
   have b1:(0:Int)≤(k:Int):=by omega
   have b2:(k:Int)<(n:Int):=by omega
   have hkl:k<L.length:=by omega
   have hts:M.take k++[tmS L[k]]=M.take (k+1):=by rw[←HM.out];exact take_map_succ _ L k hkl
   have hbw:b<w.heap.size:=hb
   have hc0:=(f1.cell (p:=⟨b,off+k*2,none⟩) hbw).trans (hcell k hkl 0 _ rfl)
   have hc1:=(f1.cell (p:=⟨b,off+k*2+1,none⟩) hbw).trans (hcell k hkl 1 _ rfl)
   try simp only[tmC,Nat.add_zero] at hc0 hc1
   have hff:=hhf k hkl
   have HTS:=Lib.hid hts;clear hts
   obtain⟨x,hx⟩:∃x,L[k]=x:=⟨_,rfl⟩
   rw[hx] at hc0 hc1 HTS hff
   obtain⟨K,tx⟩:=x
   try simp only at hc0 hc1 hff
   generalize tmS (K,tx)=s at *
   go_wp2_with fail
   refine (hff _ ?_).mono ?_
   ·exact hW.below hlt (f1.alloc f1.size _)
   rintro e w2 ⟨rfl,f2⟩
   have f3:Below w.heap.size w w2:=(f1.alloc f1.size _).trans (f2.mono (f1.alloc f1.size _).size)
   have o2:OwnR sC 1 w2 w.heap.size 9 (.slice A1 k c1) (M.take k):=(o1.below (Nat.le_refl _) ((Below.refl _ wr).alloc (Nat.le_refl _) _)).below (Nat.le_refl _) f2
   clear o1 f2 f1
   have oz:=one_str w2 s (w2.heap.size+1) (by omega)
   have hbp:Below w.heap.size w2 (w2.alloc (.cells #[.string (strB s)] 9)):=(Below.refl _ _).alloc f3.size _
   go_wp2_with (first|(at_builtin;go_must (refine appendRow TS sC_len sC_one rfl rfl rfl (o2.below (Nat.le_refl _) ((Below.refl _ w2).alloc (Nat.le_refl _) _)) rfl oz (by omega) (by simp only[maxLen];omega) hbp f3.size ?_);intro A5 c5 w5 o5 f5 g5))
   rw[HTS.out] at o5
   have f6:=f3.trans f5
   clear o2 g5 oz hbp f5 f3
   go_roundw
   case rel=>exact⟨k+1,A5,c5,by go_num,by omega,rfl,o5,f6⟩
   case measure=>simp[intOf];omega
  have d5:decide ((k:Int)<(n:Int))=false:=by simp;omega
  obtain rfl:k=n:=by omega
  have hcap:=o1.cap
  have rd:=o1.rd sC_len
  rw[List.take_of_length_le (by omega)] at rd
  have hjn:=join_anyC A1 k c1 M wr rd hcap (by omega) (by omega) HJ.out
  have hjl:(strB (Lib.join M [44])).size≤1000000:=by rw[strB_size];exact HJ.out
  have hre:r=32::(word++32::Lib.join M [44]):=by
   rw[←HR.out]
   unfold listS
   rw[if_neg (by intro e;rw[e] at hMl;simp at hMl;omega)]
  have HRE:=Lib.hid hre;clear hre
  generalize hJ:Lib.join M [44]=J at *
  obtain⟨js,hjs⟩:∃js,strB J=js:=⟨_,rfl⟩
  rw[hjs] at hjn hjl
  have HJS:=Lib.hid hjs;clear hjs
  clear o1 rd
  go_wp2_with fail
  refine hjn.mono ?_
  rintro e w2 ⟨rfl,f2⟩
  have f3:=f1.trans (f2.mono f1.size)
  have q1:¬9223372036854775807<(ByteArray.mk #[32]).size+wd.size:=by show ¬9223372036854775807<1+wd.size;omega
  go_wp2_with fail
  go_ret
  refine⟨?_,f3⟩
  rw[HRE.out,←HWD.out,←HJS.out]
  exact congrArg (fun x=>Ending.returned (Value.string x)) (list_eq word J)
set_option maxRecDepth 100000 in
set_option maxHeartbeats 4000000 in
theorem listNt_any(word:List UInt8)(A:Option Addr)(n c:Nat)(L:List Nt)(w:World)(hW:LdW w)(h:RdR ntC 2 w w.heap.size A n L)(hn:n≤1000)(hok:∀x∈L,okN x)(hwd:word.length≤1000000)(hj:(Lib.join (L.map printNetA) [44]).length≤1000000) :
  Calls Tryz.prog 40 #[.string (strB word),.slice A n c,.func (.func 41) #[] #[]] w fun e w'=>e=.returned (.string (strB (listS word (L.map printNetA))))∧Below w.heap.size w w':=by
 have hl:=h.1
 have hlt:=hW.lt
 obtain⟨r,hr⟩:∃r,listS word (L.map printNetA)=r:=⟨_,rfl⟩
 rw[hr]
 have HR:=Lib.hid hr;clear hr
 obtain⟨wd,hwd2⟩:∃wd,strB word=wd:=⟨_,rfl⟩
 have hwsz:wd.size≤1000000:=by rw[←hwd2,strB_size];exact hwd
 rw[hwd2]
 have HWD:=Lib.hid hwd2;clear hwd2
 by_cases h0:n=0
 ·subst h0
  go_enter Tryz.func40,Tryz.ntmps40
  go_wp2_with fail
  go_ret
  refine⟨?_,Below.refl _ _⟩
  rw[←HR.out,List.length_eq_zero_iff.1 hl]
  rfl
 have d0:decide ((n:Int)=0)=false:=by simp;omega
 have d00:((n:Int)==0)=false:=by rw[beq_eq_false_iff_ne];omega
 have hhf:=fun(k:Nat)(hk:k<L.length)(u:World)(hu:LdW u)=>printNet_any L[k].1 L[k].2 u hu (hok _ (List.getElem_mem hk))
 obtain⟨b,off,rfl,hb,hcell⟩:=h.2 (by omega)
 clear h
 generalize hM:L.map printNetA=M at *
 have hMl:M.length=n:=by rw[←hM,List.length_map,hl]
 have HM:=Lib.hid hM;clear hM
 have HJ:=Lib.hid hj;clear hj
 go_enter Tryz.func40,Tryz.ntmps40
 go_wp2_with fail
 go_loopw [15,7] (fun v15 v7 wr=>∃(k:Nat)(A:Option Addr)(c:Nat),v15=.int .i64 k∧k≤n∧v7=.slice A k c∧OwnR sC 1 wr w.heap.size 9 (.slice A k c) (M.take k)∧Below w.heap.size w wr) (fun v15 _ _=>n-(intOf v15).toNat)
 case atStart=>exact⟨0,none,0,rfl,by omega,rfl,OwnR.nil,Below.refl _ _⟩
 case round =>
  obtain⟨k,A1,c1,rfl,hk,rfl,o1,f1⟩:=hrel
  by_cases hlt2:k<n
  ·have d5:decide ((k:Int)<(n:Int))=true:=by simp;omega
   have b1:(0:Int)≤(k:Int):=by omega
   have b2:(k:Int)<(n:Int):=by omega
   have hkl:k<L.length:=by omega
   have hts:M.take k++[printNetA L[k]]=M.take (k+1):=by rw[←HM.out];exact take_map_succ _ L k hkl
   have hbw:b<w.heap.size:=hb
   have hc0:=(f1.cell (p:=⟨b,off+k*2,none⟩) hbw).trans (hcell k hkl 0 _ rfl)
   have hc1:=(f1.cell (p:=⟨b,off+k*2+1,none⟩) hbw).trans (hcell k hkl 1 _ rfl)
   try simp only[ntC,Nat.add_zero] at hc0 hc1
   have hff:=hhf k hkl
   have HTS:=Lib.hid hts;clear hts
   obtain⟨x,hx⟩:∃x,L[k]=x:=⟨_,rfl⟩
   rw[hx] at hc0 hc1 HTS hff
   obtain⟨K,tx⟩:=x
   try simp only at hc0 hc1 hff
   try unfold ntV at hff
   generalize printNetA (K,tx)=s at *
   go_wp2_with fail
   refine (hff _ ?_).mono ?_
   ·exact hW.below hlt (f1.alloc f1.size _)
   rintro e w2 ⟨rfl,f2⟩
   have f3:Below w.heap.size w w2:=(f1.alloc f1.size _).trans (f2.mono (f1.alloc f1.size _).size)
   have o2:OwnR sC 1 w2 w.heap.size 9 (.slice A1 k c1) (M.take k):=(o1.below (Nat.le_refl _) ((Below.refl _ wr).alloc (Nat.le_refl _) _)).below (Nat.le_refl _) f2
   clear o1 f2 f1
   have oz:=one_str w2 s (w2.heap.size+1) (by omega)
   have hbp:Below w.heap.size w2 (w2.alloc (.cells #[.string (strB s)] 9)):=(Below.refl _ _).alloc f3.size _
   go_wp2_with (first|(at_builtin;go_must (refine appendRow TS sC_len sC_one rfl rfl rfl (o2.below (Nat.le_refl _) ((Below.refl _ w2).alloc (Nat.le_refl _) _)) rfl oz (by omega) (by simp only[maxLen];omega) hbp f3.size ?_);intro A5 c5 w5 o5 f5 g5))
   rw[HTS.out] at o5
   have f6:=f3.trans f5
   clear o2 g5 oz hbp f5 f3
   go_roundw
   case rel=>exact⟨k+1,A5,c5,by go_num,by omega,rfl,o5,f6⟩
   case measure=>simp[intOf];omega
  have d5:decide ((k:Int)<(n:Int))=false:=by simp;omega
  obtain rfl:k=n:=by omega
  have hcap:=o1.cap
  have rd:=o1.rd sC_len
  rw[List.take_of_length_le (by omega)] at rd
  have hjn:=join_anyC A1 k c1 M wr rd hcap (by omega) (by omega) HJ.out
  have hjl:(strB (Lib.join M [44])).size≤1000000:=by rw[strB_size];exact HJ.out
  have hre:r=32::(word++32::Lib.join M [44]):=by
   rw[←HR.out]
   unfold listS
   rw[if_neg (by intro e;rw[e] at hMl;simp at hMl;omega)]
  have HRE:=Lib.hid hre;clear hre
  generalize hJ:Lib.join M [44]=J at *
  obtain⟨js,hjs⟩:∃js,strB J=js:=⟨_,rfl⟩
  rw[hjs] at hjn hjl
  have HJS:=Lib.hid hjs;clear hjs
  clear o1 rd
  go_wp2_with fail
  refine hjn.mono ?_
  rintro e w2 ⟨rfl,f2⟩
  have f3:=f1.trans (f2.mono f1.size)
  have q1:¬9223372036854775807<(ByteArray.mk #[32]).size+wd.size:=by show ¬9223372036854775807<1+wd.size;omega
  go_wp2_with fail
  go_ret
  refine⟨?_,f3⟩
  rw[HRE.out,←HWD.out,←HJS.out]
  exact congrArg (fun x=>Ending.returned (Value.string x)) (list_eq word J)
set_option maxRecDepth 100000 in
set_option maxHeartbeats 4000000 in
theorem listInt_any(word:List UInt8)(A:Option Addr)(n c:Nat)(L:List Int)(w:World)(hW:LdW w)(h:RdR inC 1 w w.heap.size A n L)(hn:n≤1000)(hok:∀x∈L,(-9223372036854775808≤x∧x≤9223372036854775807))(hwd:word.length≤1000000)(hj:(Lib.join (L.map Lib.itoa) [44]).length≤1000000) :
  Calls Tryz.prog 42 #[.string (strB word),.slice A n c,.func (.func 43) #[] #[]] w fun e w'=>e=.returned (.string (strB (listS word (L.map Lib.itoa))))∧Below w.heap.size w w':=by
 have hl:=h.1
 have hlt:=hW.lt
 obtain⟨r,hr⟩:∃r,listS word (L.map Lib.itoa)=r:=⟨_,rfl⟩
 rw[hr]
 have HR:=Lib.hid hr;clear hr
 obtain⟨wd,hwd2⟩:∃wd,strB word=wd:=⟨_,rfl⟩
 have hwsz:wd.size≤1000000:=by rw[←hwd2,strB_size];exact hwd
 rw[hwd2]
 have HWD:=Lib.hid hwd2;clear hwd2
 by_cases h0:n=0
 ·subst h0
  go_enter Tryz.func42,Tryz.ntmps42
  go_wp2_with fail
  go_ret
  refine⟨?_,Below.refl _ _⟩
  rw[←HR.out,List.length_eq_zero_iff.1 hl]
  rfl
 have d0:decide ((n:Int)=0)=false:=by simp;omega
 have d00:((n:Int)==0)=false:=by rw[beq_eq_false_iff_ne];omega
 have hhf:=fun(k:Nat)(hk:k<L.length)(u:World)(hu:LdW u)=>itoa_any L[k] u hu (hok _ (List.getElem_mem hk)).1 (hok _ (List.getElem_mem hk)).2
 obtain⟨b,off,rfl,hb,hcell⟩:=h.2 (by omega)
 clear h
 generalize hM:L.map Lib.itoa=M at *
 have hMl:M.length=n:=by rw[←hM,List.length_map,hl]
 have HM:=Lib.hid hM;clear hM
 have HJ:=Lib.hid hj;clear hj
 go_enter Tryz.func42,Tryz.ntmps42
 go_wp2_with fail
 go_loopw [15,7] (fun v15 v7 wr=>∃(k:Nat)(A:Option Addr)(c:Nat),v15=.int .i64 k∧k≤n∧v7=.slice A k c∧OwnR sC 1 wr w.heap.size 9 (.slice A k c) (M.take k)∧Below w.heap.size w wr) (fun v15 _ _=>n-(intOf v15).toNat)
 case atStart=>exact⟨0,none,0,rfl,by omega,rfl,OwnR.nil,Below.refl _ _⟩
 case round =>
  obtain⟨k,A1,c1,rfl,hk,rfl,o1,f1⟩:=hrel
  by_cases hlt2:k<n
  ·have d5:decide ((k:Int)<(n:Int))=true:=by simp;omega
   have b1:(0:Int)≤(k:Int):=by omega
   have b2:(k:Int)<(n:Int):=by omega
   have hkl:k<L.length:=by omega
   have hts:M.take k++[Lib.itoa L[k]]=M.take (k+1):=by rw[←HM.out];exact take_map_succ _ L k hkl
   have hbw:b<w.heap.size:=hb
   have hcI:w.cell? ⟨b,off+k,none⟩=some (.int .i64 L[k]):=by
    have:=hcell k hkl 0 (.int .i64 L[k]) rfl
    rw[Nat.mul_one] at this
    exact this
   have hc0:=(f1.cell (p:=⟨b,off+k,none⟩) hbw).trans hcI
   clear hcI
   have hff:=hhf k hkl
   have HTS:=Lib.hid hts;clear hts
   obtain⟨x,hx⟩:∃x,L[k]=x:=⟨_,rfl⟩
   rw[hx] at hc0 HTS hff
   generalize Lib.itoa x=s at *
   go_wp2_with fail
   refine (hff _ ?_).mono ?_
   ·exact hW.below hlt f1
   rintro e w2 ⟨rfl,f2⟩
   have f3:Below w.heap.size w w2:=f1.trans (f2.below.mono f1.size)
   have o2:OwnR sC 1 w2 w.heap.size 9 (.slice A1 k c1) (M.take k):=o1.below (Nat.le_refl _) f2.below
   clear o1 f2 f1
   have oz:=one_str w2 s (w2.heap.size+1) (by omega)
   have hbp:Below w.heap.size w2 (w2.alloc (.cells #[.string (strB s)] 9)):=(Below.refl _ _).alloc f3.size _
   go_wp2_with (first|(at_builtin;go_must (refine appendRow TS sC_len sC_one rfl rfl rfl (o2.below (Nat.le_refl _) ((Below.refl _ w2).alloc (Nat.le_refl _) _)) rfl oz (by omega) (by simp only[maxLen];omega) hbp f3.size ?_);intro A5 c5 w5 o5 f5 g5))
   rw[HTS.out] at o5
   have f6:=f3.trans f5
   clear o2 g5 oz hbp f5 f3
   go_roundw
   case rel=>exact⟨k+1,A5,c5,by go_num,by omega,rfl,o5,f6⟩
   case measure=>simp[intOf];omega
  have d5:decide ((k:Int)<(n:Int))=false:=by simp;omega
  obtain rfl:k=n:=by omega
  have hcap:=o1.cap
  have rd:=o1.rd sC_len
  rw[List.take_of_length_le (by omega)] at rd
  have hjn:=join_anyC A1 k c1 M wr rd hcap (by omega) (by omega) HJ.out
  have hjl:(strB (Lib.join M [44])).size≤1000000:=by rw[strB_size];exact HJ.out
  have hre:r=32::(word++32::Lib.join M [44]):=by
   rw[←HR.out]
   unfold listS
   rw[if_neg (by intro e;rw[e] at hMl;simp at hMl;omega)]
  have HRE:=Lib.hid hre;clear hre
  generalize hJ:Lib.join M [44]=J at *
  obtain⟨js,hjs⟩:∃js,strB J=js:=⟨_,rfl⟩
  rw[hjs] at hjn hjl
  have HJS:=Lib.hid hjs;clear hjs
  clear o1 rd
  go_wp2_with fail
  refine hjn.mono ?_
  rintro e w2 ⟨rfl,f2⟩
  have f3:=f1.trans (f2.mono f1.size)
  have q1:¬9223372036854775807<(ByteArray.mk #[32]).size+wd.size:=by show ¬9223372036854775807<1+wd.size;omega
  go_wp2_with fail
  go_ret
  refine⟨?_,f3⟩
  rw[HRE.out,←HWD.out,←HJS.out]
  exact congrArg (fun x=>Ending.returned (Value.string x)) (list_eq word J)
def bT(L:List Tm):Prop:=L.length≤1000∧(∀t∈L,okS t.2)∧(Lib.join (L.map tmS) [44]).length≤1000000
def bN(L:List Nt):Prop:=L.length≤1000∧(∀t∈L,okN t)∧(Lib.join (L.map printNetA) [44]).length≤1000000
def bI(L:List Int):Prop:=L.length≤1000∧(∀x∈L,-9223372036854775808≤x∧x≤9223372036854775807)∧(Lib.join (L.map Lib.itoa) [44]).length≤1000000
def bS(s:Sr):Prop:=bT s.names∧bT s.spaces∧bN s.nets
def bG(t:Tg):Prop:=bI t.ports∧bT t.methods∧bT t.paths∧bT t.hosts
def bW(x:Wn):Prop:=x.head.length≤1000000∧bT x.terms
def bR(r:Ru):Prop:=(r.froms.length≤1000∧∀s∈r.froms,bS s)∧(r.tos.length≤1000∧∀s∈r.tos,bG s)∧(r.whens.length≤1000∧∀s∈r.whens,bW s)
def fromS(s:Sr):List UInt8:=[32,32,32,32,102,114,111,109]++listS wNames (s.names.map tmS)++listS wSpaces (s.spaces.map tmS)++listS wNets (s.nets.map printNetA)++[10]
def toS(s:Tg):List UInt8:=[32,32,32,32,116,111]++listS wPorts (s.ports.map Lib.itoa)++listS wMethods (s.methods.map tmS)++listS wPaths (s.paths.map tmS)++listS wHosts (s.hosts.map tmS)++[10]
def whenS(s:Wn):List UInt8:=[32,32,32,32,119,104,101,110]++listS s.head (s.terms.map tmS)++[10]
def ruleS(r:Ru):List UInt8:=[32,32,114,117,108,101,10]++r.froms.flatMap fromS++r.tos.flatMap toS++r.whens.flatMap whenS
theorem listS_len{word:List UInt8}{M:List (List UInt8)}(h1:word.length≤1000000)(h2:(Lib.join M [44]).length≤1000000):(listS word M).length≤2000002:=by
 unfold listS
 split
 ·simp
 simp only[List.length_cons,List.length_append]
 omega
theorem flat_len{α:Type}(f:α→List UInt8)(B:Nat):∀(L:List α)(k:Nat),(∀x∈L,(f x).length≤B)→((L.take k).flatMap f).length≤k*B
 | [],k,_=>by simp
 | x::L,0,_=>by simp
 | x::L,k+1,h=>by
  have h1:=flat_len f B L k fun y hy=>h y (List.mem_cons_of_mem _ hy)
  have h2:=h x (List.mem_cons_self)
  rw[List.take_succ_cons,List.flatMap_cons,List.length_append,Nat.add_mul]
  omega
theorem flat_next{α:Type}(f:α→List UInt8)(L:List α)(k:Nat)(h:k<L.length):(L.take (k+1)).flatMap f=(L.take k).flatMap f++f L[k]:=by
 rw[←List.take_append_getElem h,List.flatMap_append,List.flatMap_cons,List.flatMap_nil,List.append_nil]
def S3(g:Nat)(v0 v1 v2:Value)(u:World):Prop:=u.cell? ⟨g,0,none⟩=some v0∧u.cell? ⟨g,1,none⟩=some v1∧u.cell? ⟨g,2,none⟩=some v2
theorem S3.below{g:Nat}{v0 v1 v2:Value}{u u':World}(h:S3 g v0 v1 v2 u)(hb:Below u.heap.size u u'):S3 g v0 v1 v2 u' :=
 ⟨(hb.cell (World.block_lt_of_cell? u _ h.1)).trans h.1,(hb.cell (World.block_lt_of_cell? u _ h.2.1)).trans h.2.1,(hb.cell (World.block_lt_of_cell? u _ h.2.2)).trans h.2.2⟩
def S4(g:Nat)(v0 v1 v2 v3:Value)(u:World):Prop:=u.cell? ⟨g,0,none⟩=some v0∧u.cell? ⟨g,1,none⟩=some v1∧u.cell? ⟨g,2,none⟩=some v2∧u.cell? ⟨g,3,none⟩=some v3
theorem S4.below{g:Nat}{v0 v1 v2 v3:Value}{u u':World}(h:S4 g v0 v1 v2 v3 u)(hb:Below u.heap.size u u'):S4 g v0 v1 v2 v3 u' :=
 ⟨(hb.cell (World.block_lt_of_cell? u _ h.1)).trans h.1,(hb.cell (World.block_lt_of_cell? u _ h.2.1)).trans h.2.1,(hb.cell (World.block_lt_of_cell? u _ h.2.2.1)).trans h.2.2.1,(hb.cell (World.block_lt_of_cell? u _ h.2.2.2)).trans h.2.2.2⟩
theorem fromS_len{s:Sr}(h:bS s):(fromS s).length≤10000000:=by
 have h1:=listS_len (word:=wNames) (by decide) h.1.2.2
 have h2:=listS_len (word:=wSpaces) (by decide) h.2.1.2.2
 have h3:=listS_len (word:=wNets) (by decide) h.2.2.2.2
 unfold fromS
 simp only[List.length_append,List.length_cons,List.length_nil]
 omega
theorem toS_len{s:Tg}(h:bG s):(toS s).length≤10000000:=by
 have h1:=listS_len (word:=wPorts) (by decide) h.1.2.2
 have h2:=listS_len (word:=wMethods) (by decide) h.2.1.2.2
 have h3:=listS_len (word:=wPaths) (by decide) h.2.2.1.2.2
 have h4:=listS_len (word:=wHosts) (by decide) h.2.2.2.2.2
 unfold toS
 simp only[List.length_append,List.length_cons,List.length_nil]
 omega
theorem whenS_len{s:Wn}(h:bW s):(whenS s).length≤10000000:=by
 have h1:=listS_len (word:=s.head) h.1 h.2.2.2
 unfold whenS
 simp only[List.length_append,List.length_cons,List.length_nil]
 omega
def T1(r:Ru)(k:Nat):List UInt8:=[32,32,114,117,108,101,10]++(r.froms.take k).flatMap fromS
def T2(r:Ru)(k:Nat):List UInt8:=T1 r r.froms.length++(r.tos.take k).flatMap toS
def T3(r:Ru)(k:Nat):List UInt8:=T2 r r.tos.length++(r.whens.take k).flatMap whenS
theorem T1_len{r:Ru}(h:bR r){k:Nat}(hk:k≤1000):(T1 r k).length≤20000000000:=by
 have:=flat_len fromS 10000000 r.froms k fun x hx=>fromS_len (h.1.2 x hx)
 have h2:=Nat.mul_le_mul_right 10000000 hk
 unfold T1
 simp only[List.length_append,List.length_cons,List.length_nil]
 omega
theorem T2_len{r:Ru}(h:bR r){k:Nat}(hk:k≤1000):(T2 r k).length≤40000000000:=by
 have:=flat_len toS 10000000 r.tos k fun x hx=>toS_len (h.2.1.2 x hx)
 have h2:=Nat.mul_le_mul_right 10000000 hk
 have h3:=T1_len h h.1.1
 unfold T2
 rw[List.length_append]
 omega
theorem T3_len{r:Ru}(h:bR r){k:Nat}(hk:k≤1000):(T3 r k).length≤60000000000:=by
 have:=flat_len whenS 10000000 r.whens k fun x hx=>whenS_len (h.2.2.2 x hx)
 have h2:=Nat.mul_le_mul_right 10000000 hk
 have h3:=T2_len h h.2.1.1
 unfold T3
 rw[List.length_append]
 omega
theorem T1_next(r:Ru)(k:Nat)(h:k<r.froms.length):T1 r k++fromS r.froms[k]=T1 r (k+1):=by
 unfold T1;rw[flat_next _ _ _ h,List.append_assoc]
theorem T2_next(r:Ru)(k:Nat)(h:k<r.tos.length):T2 r k++toS r.tos[k]=T2 r (k+1):=by
 unfold T2;rw[flat_next _ _ _ h,List.append_assoc]
theorem T3_next(r:Ru)(k:Nat)(h:k<r.whens.length):T3 r k++whenS r.whens[k]=T3 r (k+1):=by
 unfold T3;rw[flat_next _ _ _ h,List.append_assoc]
theorem T2_0(r:Ru):T2 r 0=T1 r r.froms.length:=by simp[T2]
theorem T3_0(r:Ru):T3 r 0=T2 r r.tos.length:=by simp[T3]
theorem T3_end(r:Ru):T3 r r.whens.length=ruleS r:=by simp[T3,T2,T1,ruleS]
theorem s3_new(w:World)(T:TypeId)(v0 v1 v2:Value):S3 w.heap.size v0 v1 v2 (w.alloc (.cells #[v0,v1,v2] T)):=by
 have k:=Blk.newAt (w:=w) rfl T #[v0,v1,v2]
 exact⟨k.cell 0,k.cell 1,k.cell 2⟩
theorem s4_new(w:World)(T:TypeId)(v0 v1 v2 v3:Value):S4 w.heap.size v0 v1 v2 v3 (w.alloc (.cells #[v0,v1,v2,v3] T)):=by
 have k:=Blk.newAt (w:=w) rfl T #[v0,v1,v2,v3]
 exact⟨k.cell 0,k.cell 1,k.cell 2,k.cell 3⟩
set_option maxRecDepth 100000 in
set_option maxHeartbeats 8000000 in
theorem rule_any(r:Ru)(cs:List Value)(w:World)(hW:LdW w)(h:RuP w w.heap.size cs r)(hok:bR r) :
  Calls Tryz.prog 19 #[.agg cs.toArray] w fun e w'=>e=.returned (.string (strB (ruleS r)))∧Below w.heap.size w w':=by
 have hlt:=hW.lt
 obtain⟨A1,n1,c1,A2,n2,c2,A3,n3,c3,rfl,h1,h2,h3⟩:=vals_ru h
 clear h
 have hl1:=h1.1;have hl2:=h2.1;have hl3:=h3.1
 have hn1:=hok.1.1;have hn2:=hok.2.1.1;have hn3:=hok.2.2.1
 rw[hl1] at hn1;rw[hl2] at hn2;rw[hl3] at hn3
 show Calls Tryz.prog 19 #[.agg #[.slice A1 n1 c1,.slice A2 n2 c2,.slice A3 n3 c3]] w _
 obtain⟨wb,hwb⟩:∃wb,w.alloc (.cells #[.slice A1 n1 c1,.slice A2 n2 c2,.slice A3 n3 c3] 50)=wb:=⟨_,rfl⟩
 have f0:Below w.heap.size w wb:=by rw[←hwb];exact (Below.refl _ _).alloc (Nat.le_refl _) _
 have sb:S3 w.heap.size (.slice A1 n1 c1) (.slice A2 n2 c2) (.slice A3 n3 c3) wb:=by rw[←hwb];exact s3_new _ _ _ _ _
 obtain⟨e0,e1,e2⟩:=sb
 have HOK:=Lib.hid hok;clear hok
 have H1:=Lib.hid h1;have H2:=Lib.hid h2;have H3:=Lib.hid h3
 clear h1 h2 h3
 go_enter Tryz.func19,Tryz.ntmps19
 go_wp2_with fail
 have bl:=World.block_lt_of_cell? wb _ e0
 clear hwb
 have eb1:=e1;have eb2:=e2
 go_loopw [13,3] (fun v13 v3 wr=>∃k:Nat,v13=.int .i64 k∧k≤n1∧v3=.string (strB (T1 r k))∧Below w.heap.size w wr∧Below wb.heap.size wb wr) (fun v13 _ _=>n1-(intOf v13).toNat)
 case atStart=>exact⟨0,rfl,by omega,(by first|exact congrArg Value.string rfl|rfl),f0,Below.refl _ _⟩
 case round =>
  obtain⟨k,rfl,hk,rfl,f1,fb1⟩:=hrel
  by_cases hlt2:k<n1
  ·have d5:decide ((k:Int)<(n1:Int))=true:=by simp;omega
   have b1:(0:Int)≤(k:Int):=by omega
   have b2:(k:Int)<(n1:Int):=by omega
   have hkl:k<r.froms.length:=by omega
   have hS0:=HOK.out.1.2 _ (List.getElem_mem hkl)
   have hT:=T1_next r k hkl
   have hTl:=T1_len HOK.out (k:=k) (by omega)
   obtain⟨b,off,cs,p1,p2,p3,p4,p5⟩:=(H1.out.mono f1.size f1 fun _ _ h=>SrP.mono h f1.size f1).at_ hlt2
   obtain⟨s,hs⟩:∃s,r.froms[k]=s:=⟨_,rfl⟩
   rw[hs] at hS0 hT p4
   have HT:=Lib.hid hT;clear hT hs
   have hX0:(strB (T1 r k)).size≤60000000000:=by rw[strB_size];omega
   obtain⟨B0,m0,x0,B1,m1,x1,B2,m2,x2,rfl,q0,q1,q2⟩:=vals_sr p4
   have g0:wr.cell? ⟨b,off+k*3,none⟩=some (.slice B0 m0 x0):=p5 0 _ rfl
   have g1:wr.cell? ⟨b,off+k*3+1,none⟩=some (.slice B1 m1 x1):=p5 1 _ rfl
   have g2:wr.cell? ⟨b,off+k*3+2,none⟩=some (.slice B2 m2 x2):=p5 2 _ rfl
   clear p3 p4 p5
   subst p1
   have L0:∀u,Below wr.heap.size wr u→Calls Tryz.prog 38 #[.string ⟨#[110,97,109,101,115]⟩,.slice B0 m0 x0,.func (.func 39) #[] #[]] u fun e w'=>e=.returned (.string (strB (listS wNames (s.names.map tmS))))∧Below u.heap.size u w':=fun u hu=>listTerm_any wNames B0 m0 x0 s.names u (hW.below hlt (f1.trans (hu.mono f1.size))) ((q0.below hu).more hu.size) (by rw[←q0.1];exact hS0.1.1) hS0.1.2.1 (by decide) hS0.1.2.2
   have z0:(strB (listS wNames (s.names.map tmS))).size≤2000002:=by rw[strB_size];exact listS_len (by decide) hS0.1.2.2
   obtain⟨X1,hX1⟩:∃X,strB (listS wNames (s.names.map tmS))=X:=⟨_,rfl⟩
   rw[hX1] at L0 z0
   have HX1:=Lib.hid hX1;clear hX1
   have HL0:=Lib.hid L0;clear L0
   have L1:∀u,Below wr.heap.size wr u→Calls Tryz.prog 38 #[.string ⟨#[115,112,97,99,101,115]⟩,.slice B1 m1 x1,.func (.func 39) #[] #[]] u fun e w'=>e=.returned (.string (strB (listS wSpaces (s.spaces.map tmS))))∧Below u.heap.size u w':=fun u hu=>listTerm_any wSpaces B1 m1 x1 s.spaces u (hW.below hlt (f1.trans (hu.mono f1.size))) ((q1.below hu).more hu.size) (by rw[←q1.1];exact hS0.2.1.1) hS0.2.1.2.1 (by decide) hS0.2.1.2.2
   have z1:(strB (listS wSpaces (s.spaces.map tmS))).size≤2000002:=by rw[strB_size];exact listS_len (by decide) hS0.2.1.2.2
   obtain⟨X2,hX2⟩:∃X,strB (listS wSpaces (s.spaces.map tmS))=X:=⟨_,rfl⟩
   rw[hX2] at L1 z1
   have HX2:=Lib.hid hX2;clear hX2
   have HL1:=Lib.hid L1;clear L1
   have L2:∀u,Below wr.heap.size wr u→Calls Tryz.prog 40 #[.string ⟨#[110,101,116,115]⟩,.slice B2 m2 x2,.func (.func 41) #[] #[]] u fun e w'=>e=.returned (.string (strB (listS wNets (s.nets.map printNetA))))∧Below u.heap.size u w':=fun u hu=>listNt_any wNets B2 m2 x2 s.nets u (hW.below hlt (f1.trans (hu.mono f1.size))) ((q2.below hu).more hu.size) (by rw[←q2.1];exact hS0.2.2.1) hS0.2.2.2.1 (by decide) hS0.2.2.2.2
   have z2:(strB (listS wNets (s.nets.map printNetA))).size≤2000002:=by rw[strB_size];exact listS_len (by decide) hS0.2.2.2.2
   obtain⟨X3,hX3⟩:∃X,strB (listS wNets (s.nets.map printNetA))=X:=⟨_,rfl⟩
   rw[hX3] at L2 z2
   have HX3:=Lib.hid hX3;clear hX3
   have HL2:=Lib.hid L2;clear L2
   clear q0 q1 q2 hS0
   obtain⟨Y,hY⟩:∃Y,strB (T1 r k)=Y:=⟨_,rfl⟩
   rw[hY] at hX0 ⊢
   have HY:=Lib.hid hY;clear hY hTl
   have qq0:¬9223372036854775807<8+X1.size:=by omega
   have qq1:¬9223372036854775807<8+X1.size+X2.size:=by omega
   have qq2:¬9223372036854775807<8+X1.size+X2.size+X3.size:=by omega
   have qq8:¬9223372036854775807<8+X1.size+X2.size+X3.size+1:=by omega
   have qq9:¬9223372036854775807<Y.size+(8+X1.size+X2.size+X3.size+1):=by omega
   clear hX0 z0 z1 z2
   go_upto_region 5 with fail
   refine abs (fun w2=>S3 wr.heap.size (.slice B0 m0 x0) (.slice B1 m1 x1) (.slice B2 m2 x2) w2∧Below wr.heap.size wr w2) ⟨s3_new _ _ _ _ _,(Below.refl _ _).alloc (Nat.le_refl _) _⟩ ?_
   rintro w2 ⟨⟨e10,e11,e12⟩,f2⟩
   refine wp_region_order (S3 wr.heap.size (.slice B0 m0 x0) (.slice B1 m1 x1) (.slice B2 m2 x2)) 99 [(0,0),(1,0),(2,0),(5,0),(6,0),(9,0),(10,0),(3,1),(4,0),(7,1),(8,0),(11,1),(12,0),(13,0),(14,0),(15,0)] (by kernel_rfl) (by kernel_rfl) ?_
   simp only[pick,List.filterMap_cons,List.filterMap_nil,List.getElem?_cons_zero,List.getElem?_cons_succ,Option.map_some]
   have hS:S3 wr.heap.size (.slice B0 m0 x0) (.slice B1 m1 x1) (.slice B2 m2 x2) w2.drew:=⟨e10,e11,e12⟩
   have F2:Below wr.heap.size wr w2.drew:=f2.drew
   clear f2 e10 e11 e12
   generalize w2.drew=wd at *
   iterate 7 (refine wpF_take (v:=?_) hS rfl ?_ (fun _ _ _ h=>h) ?_;rotate_left;(· intro w' hS';obtain⟨e10,e11,e12⟩:=hS';go_simp<;>rfl);go_simp)
   refine wpF_only rfl (fun K hK=>?_)
   go_wp2_with fail
   refine (HL0.out _ F2).mono ?_
   rintro e w3 ⟨rfl,f3⟩
   replace hS:=hS.below f3
   have hS2:=hS
   obtain⟨e10,e11,e12⟩:=hS2
   replace F2:=F2.trans (f3.mono F2.size)
   clear f3
   go_wp2_with fail
   first|refine⟨fun _=>hS,?_⟩|refine⟨hS,?_⟩|skip
   go_simp
   clear e10 e11 e12
   (refine wpF_take (v:=?_) hS rfl ?_ (fun _ _ _ h=>h) ?_;rotate_left;(· intro w' hS';obtain⟨e10,e11,e12⟩:=hS';go_simp<;>rfl);go_simp)
   refine wpF_only rfl (fun K hK=>?_)
   go_wp2_with fail
   refine (HL1.out _ F2).mono ?_
   rintro e w3 ⟨rfl,f3⟩
   replace hS:=hS.below f3
   have hS2:=hS
   obtain⟨e10,e11,e12⟩:=hS2
   replace F2:=F2.trans (f3.mono F2.size)
   clear f3
   go_wp2_with fail
   first|refine⟨fun _=>hS,?_⟩|refine⟨hS,?_⟩|skip
   go_simp
   clear e10 e11 e12
   (refine wpF_take (v:=?_) hS rfl ?_ (fun _ _ _ h=>h) ?_;rotate_left;(· intro w' hS';obtain⟨e10,e11,e12⟩:=hS';go_simp<;>rfl);go_simp)
   refine wpF_only rfl (fun K hK=>?_)
   go_wp2_with fail
   refine (HL2.out _ F2).mono ?_
   rintro e w3 ⟨rfl,f3⟩
   replace hS:=hS.below f3
   have hS2:=hS
   obtain⟨e10,e11,e12⟩:=hS2
   replace F2:=F2.trans (f3.mono F2.size)
   clear f3
   go_wp2_with fail
   first|refine⟨fun _=>hS,?_⟩|refine⟨hS,?_⟩|skip
   go_simp
   clear e10 e11 e12
   iterate 4 (refine wpF_take (v:=?_) hS rfl ?_ (fun _ _ _ h=>h) ?_;rotate_left;(· intro w' hS';obtain⟨e10,e11,e12⟩:=hS';go_simp<;>rfl);go_simp)
   refine wpF_nil ?_
   go_wp2_with fail
   go_roundw
   case rel =>
    refine⟨k+1,by go_num,by omega,congrArg Value.string ?_,f1.trans (F2.mono f1.size),fb1.trans (F2.mono fb1.size)⟩
    rw[←HT.out,←HY.out,←HX1.out,←HX2.out,←HX3.out]
    apply ByteArray.ext
    simp[strB,fromS]
   case measure=>simp[intOf];omega
  have d5:decide ((k:Int)<(n1:Int))=false:=by simp;omega
  have hkn:k=n1:=by omega
  replace e1:=(fb1.cell (p:=⟨w.heap.size,1,none⟩) bl).trans e1
  replace e2:=(fb1.cell (p:=⟨w.heap.size,2,none⟩) bl).trans e2
  subst hkn
  have hst:strB (T1 r k)=strB (T2 r 0):=by rw[T2_0,hl1]
  have f1':=f1;have fb1':=fb1
  go_wp2_with fail
  go_loopw [36,3] (fun v13 v3 wr=>∃k:Nat,v13=.int .i64 k∧k≤n2∧v3=.string (strB (T2 r k))∧Below w.heap.size w wr∧Below wb.heap.size wb wr) (fun v13 _ _=>n2-(intOf v13).toNat)
  case atStart=>exact⟨0,rfl,by omega,(by first|exact congrArg Value.string hst|rfl),f1,fb1⟩
  case round =>
   obtain⟨k,rfl,hk,rfl,f1,fb1⟩:=hrel
   by_cases hlt2:k<n2
   ·have d5:decide ((k:Int)<(n2:Int))=true:=by simp;omega
    have b1:(0:Int)≤(k:Int):=by omega
    have b2:(k:Int)<(n2:Int):=by omega
    have hkl:k<r.tos.length:=by omega
    have hS0:=HOK.out.2.1.2 _ (List.getElem_mem hkl)
    have hT:=T2_next r k hkl
    have hTl:=T2_len HOK.out (k:=k) (by omega)
    obtain⟨b,off,cs,p1,p2,p3,p4,p5⟩:=(H2.out.mono f1.size f1 fun _ _ h=>TgP.mono h f1.size f1).at_ hlt2
    obtain⟨s,hs⟩:∃s,r.tos[k]=s:=⟨_,rfl⟩
    rw[hs] at hS0 hT p4
    have HT:=Lib.hid hT;clear hT hs
    have hX0:(strB (T2 r k)).size≤60000000000:=by rw[strB_size];omega
    obtain⟨B0,m0,x0,B1,m1,x1,B2,m2,x2,B3,m3,x3,rfl,q0,q1,q2,q3⟩:=vals_tg p4
    have g0:wr.cell? ⟨b,off+k*4,none⟩=some (.slice B0 m0 x0):=p5 0 _ rfl
    have g1:wr.cell? ⟨b,off+k*4+1,none⟩=some (.slice B1 m1 x1):=p5 1 _ rfl
    have g2:wr.cell? ⟨b,off+k*4+2,none⟩=some (.slice B2 m2 x2):=p5 2 _ rfl
    have g3:wr.cell? ⟨b,off+k*4+3,none⟩=some (.slice B3 m3 x3):=p5 3 _ rfl
    clear p3 p4 p5
    subst p1
    have L0:∀u,Below wr.heap.size wr u→Calls Tryz.prog 42 #[.string ⟨#[112,111,114,116,115]⟩,.slice B0 m0 x0,.func (.func 43) #[] #[]] u fun e w'=>e=.returned (.string (strB (listS wPorts (s.ports.map Lib.itoa))))∧Below u.heap.size u w':=fun u hu=>listInt_any wPorts B0 m0 x0 s.ports u (hW.below hlt (f1.trans (hu.mono f1.size))) ((q0.below hu).more hu.size) (by rw[←q0.1];exact hS0.1.1) hS0.1.2.1 (by decide) hS0.1.2.2
    have z0:(strB (listS wPorts (s.ports.map Lib.itoa))).size≤2000002:=by rw[strB_size];exact listS_len (by decide) hS0.1.2.2
    obtain⟨X1,hX1⟩:∃X,strB (listS wPorts (s.ports.map Lib.itoa))=X:=⟨_,rfl⟩
    rw[hX1] at L0 z0
    have HX1:=Lib.hid hX1;clear hX1
    have HL0:=Lib.hid L0;clear L0
    have L1:∀u,Below wr.heap.size wr u→Calls Tryz.prog 38 #[.string ⟨#[109,101,116,104,111,100,115]⟩,.slice B1 m1 x1,.func (.func 39) #[] #[]] u fun e w'=>e=.returned (.string (strB (listS wMethods (s.methods.map tmS))))∧Below u.heap.size u w':=fun u hu=>listTerm_any wMethods B1 m1 x1 s.methods u (hW.below hlt (f1.trans (hu.mono f1.size))) ((q1.below hu).more hu.size) (by rw[←q1.1];exact hS0.2.1.1) hS0.2.1.2.1 (by decide) hS0.2.1.2.2
    have z1:(strB (listS wMethods (s.methods.map tmS))).size≤2000002:=by rw[strB_size];exact listS_len (by decide) hS0.2.1.2.2
    obtain⟨X2,hX2⟩:∃X,strB (listS wMethods (s.methods.map tmS))=X:=⟨_,rfl⟩
    rw[hX2] at L1 z1
    have HX2:=Lib.hid hX2;clear hX2
    have HL1:=Lib.hid L1;clear L1
    have L2:∀u,Below wr.heap.size wr u→Calls Tryz.prog 38 #[.string ⟨#[112,97,116,104,115]⟩,.slice B2 m2 x2,.func (.func 39) #[] #[]] u fun e w'=>e=.returned (.string (strB (listS wPaths (s.paths.map tmS))))∧Below u.heap.size u w':=fun u hu=>listTerm_any wPaths B2 m2 x2 s.paths u (hW.below hlt (f1.trans (hu.mono f1.size))) ((q2.below hu).more hu.size) (by rw[←q2.1];exact hS0.2.2.1.1) hS0.2.2.1.2.1 (by decide) hS0.2.2.1.2.2
    have z2:(strB (listS wPaths (s.paths.map tmS))).size≤2000002:=by rw[strB_size];exact listS_len (by decide) hS0.2.2.1.2.2
    obtain⟨X3,hX3⟩:∃X,strB (listS wPaths (s.paths.map tmS))=X:=⟨_,rfl⟩
    rw[hX3] at L2 z2
    have HX3:=Lib.hid hX3;clear hX3
    have HL2:=Lib.hid L2;clear L2
    have L3:∀u,Below wr.heap.size wr u→Calls Tryz.prog 38 #[.string ⟨#[104,111,115,116,115]⟩,.slice B3 m3 x3,.func (.func 39) #[] #[]] u fun e w'=>e=.returned (.string (strB (listS wHosts (s.hosts.map tmS))))∧Below u.heap.size u w':=fun u hu=>listTerm_any wHosts B3 m3 x3 s.hosts u (hW.below hlt (f1.trans (hu.mono f1.size))) ((q3.below hu).more hu.size) (by rw[←q3.1];exact hS0.2.2.2.1) hS0.2.2.2.2.1 (by decide) hS0.2.2.2.2.2
    have z3:(strB (listS wHosts (s.hosts.map tmS))).size≤2000002:=by rw[strB_size];exact listS_len (by decide) hS0.2.2.2.2.2
    obtain⟨X4,hX4⟩:∃X,strB (listS wHosts (s.hosts.map tmS))=X:=⟨_,rfl⟩
    rw[hX4] at L3 z3
    have HX4:=Lib.hid hX4;clear hX4
    have HL3:=Lib.hid L3;clear L3
    clear q0 q1 q2 q3 hS0
    obtain⟨Y,hY⟩:∃Y,strB (T2 r k)=Y:=⟨_,rfl⟩
    rw[hY] at hX0 ⊢
    have HY:=Lib.hid hY;clear hY hTl
    have qq0:¬9223372036854775807<6+X1.size:=by omega
    have qq1:¬9223372036854775807<6+X1.size+X2.size:=by omega
    have qq2:¬9223372036854775807<6+X1.size+X2.size+X3.size:=by omega
    have qq3:¬9223372036854775807<6+X1.size+X2.size+X3.size+X4.size:=by omega
    have qq8:¬9223372036854775807<6+X1.size+X2.size+X3.size+X4.size+1:=by omega
    have qq9:¬9223372036854775807<Y.size+(6+X1.size+X2.size+X3.size+X4.size+1):=by omega
    clear hX0 z0 z1 z2 z3
    go_upto_region 10 with fail
    refine abs (fun w2=>S4 wr.heap.size (.slice B0 m0 x0) (.slice B1 m1 x1) (.slice B2 m2 x2) (.slice B3 m3 x3) w2∧Below wr.heap.size wr w2) ⟨s4_new _ _ _ _ _ _,(Below.refl _ _).alloc (Nat.le_refl _) _⟩ ?_
    rintro w2 ⟨⟨e10,e11,e12,e13⟩,f2⟩
    refine wp_region_order (S4 wr.heap.size (.slice B0 m0 x0) (.slice B1 m1 x1) (.slice B2 m2 x2) (.slice B3 m3 x3)) 99 [(0,0),(1,0),(2,0),(5,0),(6,0),(9,0),(10,0),(13,0),(14,0),(3,1),(4,0),(7,1),(8,0),(11,1),(12,0),(15,1),(16,0),(17,0),(18,0),(19,0)] (by kernel_rfl) (by kernel_rfl) ?_
    simp only[pick,List.filterMap_cons,List.filterMap_nil,List.getElem?_cons_zero,List.getElem?_cons_succ,Option.map_some]
    have hS:S4 wr.heap.size (.slice B0 m0 x0) (.slice B1 m1 x1) (.slice B2 m2 x2) (.slice B3 m3 x3) w2.drew:=⟨e10,e11,e12,e13⟩
    have F2:Below wr.heap.size wr w2.drew:=f2.drew
    clear f2 e10 e11 e12 e13
    generalize w2.drew=wd at *
    iterate 9 (refine wpF_take (v:=?_) hS rfl ?_ (fun _ _ _ h=>h) ?_;rotate_left;(· intro w' hS';obtain⟨e10,e11,e12,e13⟩:=hS';go_simp<;>rfl);go_simp)
    refine wpF_only rfl (fun K hK=>?_)
    go_wp2_with fail
    refine (HL0.out _ F2).mono ?_
    rintro e w3 ⟨rfl,f3⟩
    replace hS:=hS.below f3
    have hS2:=hS
    obtain⟨e10,e11,e12,e13⟩:=hS2
    replace F2:=F2.trans (f3.mono F2.size)
    clear f3
    go_wp2_with fail
    first|refine⟨fun _=>hS,?_⟩|refine⟨hS,?_⟩|skip
    go_simp
    clear e10 e11 e12 e13
    (refine wpF_take (v:=?_) hS rfl ?_ (fun _ _ _ h=>h) ?_;rotate_left;(· intro w' hS';obtain⟨e10,e11,e12,e13⟩:=hS';go_simp<;>rfl);go_simp)
    refine wpF_only rfl (fun K hK=>?_)
    go_wp2_with fail
    refine (HL1.out _ F2).mono ?_
    rintro e w3 ⟨rfl,f3⟩
    replace hS:=hS.below f3
    have hS2:=hS
    obtain⟨e10,e11,e12,e13⟩:=hS2
    replace F2:=F2.trans (f3.mono F2.size)
    clear f3
    go_wp2_with fail
    first|refine⟨fun _=>hS,?_⟩|refine⟨hS,?_⟩|skip
    go_simp
    clear e10 e11 e12 e13
    (refine wpF_take (v:=?_) hS rfl ?_ (fun _ _ _ h=>h) ?_;rotate_left;(· intro w' hS';obtain⟨e10,e11,e12,e13⟩:=hS';go_simp<;>rfl);go_simp)
    refine wpF_only rfl (fun K hK=>?_)
    go_wp2_with fail
    refine (HL2.out _ F2).mono ?_
    rintro e w3 ⟨rfl,f3⟩
    replace hS:=hS.below f3
    have hS2:=hS
    obtain⟨e10,e11,e12,e13⟩:=hS2
    replace F2:=F2.trans (f3.mono F2.size)
    clear f3
    go_wp2_with fail
    first|refine⟨fun _=>hS,?_⟩|refine⟨hS,?_⟩|skip
    go_simp
    clear e10 e11 e12 e13
    (refine wpF_take (v:=?_) hS rfl ?_ (fun _ _ _ h=>h) ?_;rotate_left;(· intro w' hS';obtain⟨e10,e11,e12,e13⟩:=hS';go_simp<;>rfl);go_simp)
    refine wpF_only rfl (fun K hK=>?_)
    go_wp2_with fail
    refine (HL3.out _ F2).mono ?_
    rintro e w3 ⟨rfl,f3⟩
    replace hS:=hS.below f3
    have hS2:=hS
    obtain⟨e10,e11,e12,e13⟩:=hS2
    replace F2:=F2.trans (f3.mono F2.size)
    clear f3
    go_wp2_with fail
    first|refine⟨fun _=>hS,?_⟩|refine⟨hS,?_⟩|skip
    go_simp
    clear e10 e11 e12 e13
    iterate 4 (refine wpF_take (v:=?_) hS rfl ?_ (fun _ _ _ h=>h) ?_;rotate_left;(· intro w' hS';obtain⟨e10,e11,e12,e13⟩:=hS';go_simp<;>rfl);go_simp)
    refine wpF_nil ?_
    go_wp2_with fail
    go_roundw
    case rel =>
     refine⟨k+1,by go_num,by omega,congrArg Value.string ?_,f1.trans (F2.mono f1.size),fb1.trans (F2.mono fb1.size)⟩
     rw[←HT.out,←HY.out,←HX1.out,←HX2.out,←HX3.out,←HX4.out]
     apply ByteArray.ext
     simp[strB,toS]
    case measure=>simp[intOf];omega
   have d5:decide ((k:Int)<(n2:Int))=false:=by simp;omega
   have hkn:k=n2:=by omega
   have e22:=(fb1.cell (p:=⟨w.heap.size,2,none⟩) bl).trans eb2
   subst hkn
   have hst:strB (T2 r k)=strB (T3 r 0):=by rw[T3_0,hl2]
   have f1':=f1;have fb1':=fb1
   go_wp2_with fail
   go_loopw [63,3] (fun v13 v3 wr=>∃k:Nat,v13=.int .i64 k∧k≤n3∧v3=.string (strB (T3 r k))∧Below w.heap.size w wr∧Below wb.heap.size wb wr) (fun v13 _ _=>n3-(intOf v13).toNat)
   case atStart=>exact⟨0,rfl,by omega,(by first|exact congrArg Value.string hst|rfl),f1,fb1⟩
   case round =>
    obtain⟨k,rfl,hk,rfl,f1,fb1⟩:=hrel
    by_cases hlt2:k<n3
    ·have d5:decide ((k:Int)<(n3:Int))=true:=by simp;omega
     have b1:(0:Int)≤(k:Int):=by omega
     have b2:(k:Int)<(n3:Int):=by omega
     have hkl:k<r.whens.length:=by omega
     have hS0:=HOK.out.2.2.2 _ (List.getElem_mem hkl)
     have hT:=T3_next r k hkl
     have hTl:=T3_len HOK.out (k:=k) (by omega)
     obtain⟨b,off,cs,p1,p2,p3,p4,p5⟩:=(H3.out.mono f1.size f1 fun _ _ h=>WnP.mono h f1.size f1).at_ hlt2
     obtain⟨s,hs⟩:∃s,r.whens[k]=s:=⟨_,rfl⟩
     rw[hs] at hS0 hT p4
     have HT:=Lib.hid hT;clear hT hs
     have hX0:(strB (T3 r k)).size≤60000000000:=by rw[strB_size];omega
     obtain⟨B0,m0,x0,rfl,q0⟩:=vals_wn p4
     have g0:wr.cell? ⟨b,off+k*2,none⟩=some (.string (strB s.head)):=p5 0 _ rfl
     have g1:wr.cell? ⟨b,off+k*2+1,none⟩=some (.slice B0 m0 x0):=p5 1 _ rfl
     clear p3 p4 p5
     subst p1
     have L0:∀u,Below wr.heap.size wr u→Calls Tryz.prog 38 #[.string (strB s.head),.slice B0 m0 x0,.func (.func 39) #[] #[]] u fun e w'=>e=.returned (.string (strB (listS s.head (s.terms.map tmS))))∧Below u.heap.size u w':=fun u hu=>listTerm_any s.head B0 m0 x0 s.terms u (hW.below hlt (f1.trans (hu.mono f1.size))) ((q0.below hu).more hu.size) (by rw[←q0.1];exact hS0.2.1) hS0.2.2.1 hS0.1 hS0.2.2.2
     have z0:(strB (listS s.head (s.terms.map tmS))).size≤2000002:=by rw[strB_size];exact listS_len hS0.1 hS0.2.2.2
     obtain⟨X1,hX1⟩:∃X,strB (listS s.head (s.terms.map tmS))=X:=⟨_,rfl⟩
     rw[hX1] at L0 z0
     have HX1:=Lib.hid hX1;clear hX1
     obtain⟨HD,hHD⟩:∃X,strB s.head=X:=⟨_,rfl⟩
     rw[hHD] at L0 g0
     clear hHD q0 hS0
     obtain⟨Y,hY⟩:∃Y,strB (T3 r k)=Y:=⟨_,rfl⟩
     rw[hY] at hX0 ⊢
     have HY:=Lib.hid hY;clear hY hTl
     go_wp2_with fail
     refine (L0 _ ((Below.refl _ _).alloc (Nat.le_refl _) _)).mono ?_
     rintro e w3 ⟨rfl,f3⟩
     have F2:=((Below.refl _ wr).alloc (Nat.le_refl _) _).trans (f3.mono (by simp))
     clear f3 L0
     go_wp2_with fail
     go_roundw
     case rel =>
      refine⟨k+1,by go_num,by omega,congrArg Value.string ?_,f1.trans (F2.mono f1.size),fb1.trans (F2.mono fb1.size)⟩
      rw[←HT.out,←HY.out,←HX1.out]
      apply ByteArray.ext
      simp[strB,whenS]
     case measure=>simp[intOf];omega
    have d5:decide ((k:Int)<(n3:Int))=false:=by simp;omega
    have hkn:k=n3:=by omega
    subst hkn
    have hst:strB (T3 r k)=strB (ruleS r):=by rw[←T3_end,hl3]
    go_wp2_with fail
    go_ret
    exact⟨congrArg (fun x=>Ending.returned (Value.string x)) hst,f1⟩
def polS(p:Po):List UInt8:=firstS p++p.rules.flatMap ruleS
theorem firstS_len{p:Po}(k1:p.id<18446744073709551616)(k2:okS p.ns)(k3:p.service<18446744073709551616):(firstS p).length≤2000000:=by
 have h1:=dec_len20 k1
 have h3:=dec_len20 k3
 unfold okS at k2
 rw[first_eq rfl rfl rfl]
 simp only[List.length_append,List.length_cons,List.length_nil]
 split<;>split<;>split<;>simp only[List.length_append,List.length_cons,List.length_nil]<;>omega
theorem ruleS_len{r:Ru}(h:bR r):(ruleS r).length≤60000000000:=by
 rw[←T3_end]
 exact T3_len h h.2.2.1
def bP(p:Po):Prop:=p.rules.length≤1000∧∀r∈p.rules,bR r
theorem polS_len{p:Po}(hok:okPo p)(h:bP p):(polS p).length≤70000000000000:=by
 have h1:=firstS_len hok.1 hok.2.1 hok.2.2.1
 have h2:=flat_len ruleS 60000000000 p.rules p.rules.length fun x hx=>ruleS_len (h.2 x hx)
 rw[List.take_length] at h2
 have h3:=Nat.mul_le_mul_right 60000000000 h.1
 unfold polS
 rw[List.length_append]
 omega
def P1(L:List Po)(k:Nat):List UInt8:=(L.take k).flatMap polS
def P2(L:List Po)(k:Nat)(p:Po)(j:Nat):List UInt8:=P1 L k++firstS p++(p.rules.take j).flatMap ruleS
theorem P1_next(L:List Po)(k:Nat)(h:k<L.length):P2 L k L[k] L[k].rules.length=P1 L (k+1):=by
 unfold P2 P1
 rw[flat_next _ _ _ h,List.take_length]
 simp[polS]
theorem P2_next(L:List Po)(k:Nat)(p:Po)(j:Nat)(h:j<p.rules.length):P2 L k p j++ruleS p.rules[j]=P2 L k p (j+1):=by
 unfold P2
 rw[flat_next _ _ _ h,List.append_assoc]
theorem P2_0(L:List Po)(k:Nat)(p:Po):P2 L k p 0=P1 L k++firstS p:=by simp[P2]
theorem P1_end(L:List Po):P1 L L.length=L.flatMap polS:=by simp[P1]
theorem P1_len{L:List Po}{k:Nat}(hk:k≤100000)(hok:∀p∈L,okPo p)(hb:∀p∈L.take k,bP p):(P1 L k).length≤7000000000000000000:=by
 have h1:=flat_len polS 70000000000000 (L.take k) k fun x hx=>polS_len (hok x (List.mem_of_mem_take hx)) (hb x hx)
 rw[List.take_take,Nat.min_self] at h1
 have h2:=Nat.mul_le_mul_right 70000000000000 hk
 unfold P1
 omega
theorem P2_len{L:List Po}{k:Nat}{p:Po}{j:Nat}(hj:j≤1000)(h1:(P1 L k).length≤7000000000000000000)(hok:okPo p)(hb:bP p):(P2 L k p j).length≤8000000000000000000:=by
 have h2:=firstS_len hok.1 hok.2.1 hok.2.2.1
 have h3:=flat_len ruleS 60000000000 p.rules j fun x hx=>ruleS_len (hb.2 x hx)
 have h4:=Nat.mul_le_mul_right 60000000000 hj
 unfold P2
 rw[List.length_append,List.length_append]
 omega
set_option maxRecDepth 100000 in
set_option maxHeartbeats 8000000 in
theorem print15_any(A:Option Addr)(n c:Nat)(L:List Po)(w:World)(hW:LdW w)(h:RdG 5 PoP w w.heap.size A n L)(hn:n≤100000)(hok:∀p∈L,okPo p)(hb:∀p∈L,poMay p=true→bP p) :
  Calls Tryz.prog 10 #[.slice A n c] w fun e w'=>e=.returned (if L.all poMay then .tuple #[.string (strB (L.flatMap polS)),.int .i64 0] else .tuple #[.string (strB []),.int .i64 1])∧Below w.heap.size w w':=by
 have hlt:=hW.lt
 have hl:=h.1
 obtain⟨R,hR⟩:∃R,(if L.all poMay then Value.tuple #[.string (strB (L.flatMap polS)),.int .i64 0] else Value.tuple #[.string (strB []),.int .i64 1])=R:=⟨_,rfl⟩
 rw[hR]
 have HR:=Lib.hid hR;have HOK:=Lib.hid hok;have HB:=Lib.hid hb;have H:=Lib.hid h
 clear hR hok hb h
 go_enter Tryz.func10,Tryz.ntmps10
 go_wp2_with fail
 go_loopw [11,4] (fun v11 v4 wr=>∃k:Nat,v11=.int .i64 k∧k≤n∧v4=.string (strB (P1 L k))∧Below w.heap.size w wr∧(∀p∈L.take k,poMay p=true)) (fun v11 _ _=>n-(intOf v11).toNat)
 case atStart=>exact⟨0,rfl,by omega,(by first|rfl|simp[P1,strB]),Below.refl _ _,by simp⟩
 case round =>
  obtain⟨k,rfl,hk,rfl,f1,hall⟩:=hrel
  by_cases hlt2:k<n
  ·have d5:decide ((k:Int)<(n:Int))=true:=by simp;omega
   have b1:(0:Int)≤(k:Int):=by omega
   have b2:(k:Int)<(n:Int):=by omega
   have hkl:k<L.length:=by omega
   have hokp:=HOK.out _ (List.getElem_mem hkl)
   have hbp:=HB.out _ (List.getElem_mem hkl)
   have hX:=P1_len (L:=L) (k:=k) (by omega) HOK.out fun p hp=>HB.out p (List.mem_of_mem_take hp) (hall p hp)
   have hT:=P1_next L k hkl
   have hmem:=List.getElem_mem hkl
   have htk:=(List.take_append_getElem hkl).symm
   obtain⟨b,off,cs,p1,p2,p3,p4,p5⟩:=(H.out.mono f1.size f1 fun _ _ h=>PoP.mono h f1.size f1).at_ hlt2
   obtain⟨p,hp⟩:∃p,L[k]=p:=⟨_,rfl⟩
   rw[hp] at hokp hbp hT p4 hmem htk
   clear hp
   have HP4:=Lib.hid p4
   obtain⟨v,rfl,A5,n5,c5,rfl,_,_,hr⟩:=p4
   have g0:wr.cell? ⟨b,off+k*5,none⟩=some (.int .u64 (p.id:Int)):=p5 0 _ rfl
   have g1:wr.cell? ⟨b,off+k*5+1,none⟩=some (.string (strB p.ns)):=p5 1 _ rfl
   have g2:wr.cell? ⟨b,off+k*5+2,none⟩=some (.int .u64 (p.service:Int)):=p5 2 _ rfl
   have g3:wr.cell? ⟨b,off+k*5+3,none⟩=some (.int .i64 p.deny):=p5 3 _ rfl
   have g4:wr.cell? ⟨b,off+k*5+4,none⟩=some (.slice A5 n5 c5):=p5 4 _ rfl
   clear p3 p5
   subst p1
   have hmy:=fun(u:World)(hu:Below wr.heap.size wr u)=>may12_any p _ u (PoP.mono HP4.out hu.size hu) hokp
   have hfi:=fun(u:World)(hu:LdW u)=>first_any p A5 n5 c5 u hu hokp.1 hokp.2.1 hokp.2.2.1
   have hfl:(strB (firstS p)).size≤2000000:=by rw[strB_size];exact firstS_len hokp.1 hokp.2.1 hokp.2.2.1
   have hX0:(strB (P1 L k)).size≤7000000000000000000:=by rw[strB_size];exact hX
   have HFI:=Lib.hid hfi;clear hfi
   obtain⟨wb,hwb⟩:∃wb,wr.alloc (.cells #[.int .u64 (p.id:Int),.string (strB p.ns),.int .u64 (p.service:Int),.int .i64 p.deny,.slice A5 n5 c5] 39)=wb:=⟨_,rfl⟩
   have fb:Below wr.heap.size wr wb:=by rw[←hwb];exact (Below.refl _ _).alloc (Nat.le_refl _) _
   have bl:=Blk.newAt (w:=wr) rfl 39 #[.int .u64 (p.id:Int),.string (strB p.ns),.int .u64 (p.service:Int),.int .i64 p.deny,.slice A5 n5 c5]
   rw[hwb] at bl
   have e0:wb.cell? ⟨wr.heap.size,0,none⟩=some (.int .u64 (p.id:Int)):=bl.cell 0
   have e1:wb.cell? ⟨wr.heap.size,1,none⟩=some (.string (strB p.ns)):=bl.cell 1
   have e2:wb.cell? ⟨wr.heap.size,2,none⟩=some (.int .u64 (p.service:Int)):=bl.cell 2
   have e3:wb.cell? ⟨wr.heap.size,3,none⟩=some (.int .i64 p.deny):=bl.cell 3
   have e4:wb.cell? ⟨wr.heap.size,4,none⟩=some (.slice A5 n5 c5):=bl.cell 4
   have hbl:=bl.lt
   clear bl HP4
   have qa:¬9223372036854775807<(strB (P1 L k)).size+(strB (firstS p)).size:=by omega
   have hs1:strB (P1 L k)++strB (firstS p)=strB (P2 L k p 0):=by rw[strB_append,P2_0]
   generalize strB p.ns=sn at *
   go_wp2_with fail
   refine (hmy _ fb).mono ?_
   rintro e w2 ⟨rfl,f2⟩
   clear g0 g1 g2 g3 g4 hwb hmy
   rcases hm:poMay p with _|_
   ·go_wp2_with fail
    go_ret2
    refine⟨?_,f1.trans (fb.trans (f2.mono fb.size) |>.mono f1.size)⟩
    rw[←HR.out,if_neg (by rw[List.all_eq_true];intro hh;rw[hh p hmem] at hm;cases hm)]
    rfl
   have hbp2:=hbp hm
   have q0:=(f2.cell (p:=⟨wr.heap.size,0,none⟩) hbl).trans e0
   have q1:=(f2.cell (p:=⟨wr.heap.size,1,none⟩) hbl).trans e1
   have q2:=(f2.cell (p:=⟨wr.heap.size,2,none⟩) hbl).trans e2
   have q3:=(f2.cell (p:=⟨wr.heap.size,3,none⟩) hbl).trans e3
   have q4:=(f2.cell (p:=⟨wr.heap.size,4,none⟩) hbl).trans e4
   have F2:=fb.trans (f2.mono fb.size)
   have hb2:=Nat.lt_of_lt_of_le hbl f2.size
   clear e0 e1 e2 e3 e4 f2 hbl fb
   go_wp2_with fail
   refine (HFI.out _ (hW.below hlt (f1.trans (F2.mono f1.size)))).mono ?_
   rintro e w3 ⟨rfl,f3⟩
   have r4:=(f3.cell (p:=⟨wr.heap.size,4,none⟩) hb2).trans q4
   have F3:=F2.trans (f3.mono F2.size)
   clear q0 q1 q2 q3 q4 f3 F2 hb2
   have hn5:n5≤1000:=by rw[←hr.1];exact hbp2.1
   have hr5:=hr.1
   have HRR:=Lib.hid hr;clear hr
   go_wp2_with fail
   go_loopw [25,4] (fun v25 v4 wq=>∃j:Nat,v25=.int .i64 j∧j≤n5∧v4=.string (strB (P2 L k p j))∧Below wr.heap.size wr wq) (fun v25 _ _=>n5-(intOf v25).toNat)
   case atStart=>exact⟨0,rfl,by omega,(by first|exact congrArg Value.string hs1|rfl),F3⟩
   case round =>
    obtain⟨j,rfl,hj,rfl,F4⟩:=hrel
    by_cases hlt3:j<n5
    ·have d6:decide ((j:Int)<(n5:Int))=true:=by simp;omega
     have b3:(0:Int)≤(j:Int):=by omega
     have b4:(j:Int)<(n5:Int):=by omega
     have hjl:j<p.rules.length:=by omega
     have hbr:=hbp2.2 _ (List.getElem_mem hjl)
     have hU:=P2_next L k p j hjl
     have hUl:=P2_len (L:=L) (k:=k) (p:=p) (j:=j) (by omega) hX hokp hbp2
     obtain⟨b',off',cs',y1,y2,y3,y4,y5⟩:=(HRR.out.mono F4.size F4 fun _ _ h=>RuP.mono h F4.size F4).at_ hlt3
     obtain⟨ru,hru⟩:∃ru,p.rules[j]=ru:=⟨_,rfl⟩
     rw[hru] at hbr hU y4
     clear hru
     have hcl:=fun(u:World)(hu:Below wr.heap.size wr u)(hL:LdW u)=>rule_any ru cs' u hL (RuP.mono y4 hu.size hu) hbr
     have hrl:(strB (ruleS ru)).size≤60000000000:=by rw[strB_size];exact ruleS_len hbr
     have hul:(strB (P2 L k p j)).size≤8000000000000000000:=by rw[strB_size];exact hUl
     have HU:=Lib.hid hU;clear hU
     obtain⟨B0,m0,x0,B1,m1,x1,B2,m2,x2,rfl,_⟩:=vals_ru y4
     have g0:wr.cell? ⟨b',off'+j*3,none⟩=some (.slice B0 m0 x0):=y5 0 _ rfl
     have g1:wr.cell? ⟨b',off'+j*3+1,none⟩=some (.slice B1 m1 x1):=y5 1 _ rfl
     have g2:wr.cell? ⟨b',off'+j*3+2,none⟩=some (.slice B2 m2 x2):=y5 2 _ rfl
     clear y3 y4 y5
     subst y1
     have qb:¬9223372036854775807<(strB (P2 L k p j)).size+(strB (ruleS ru)).size:=by omega
     have hs2:strB (P2 L k p j)++strB (ruleS ru)=strB (P2 L k p (j+1)):=by rw[strB_append,HU.out]
     have HS2:=Lib.hid hs2;clear hs2 hs1
     generalize strB (ruleS ru)=rs at *
     generalize strB (P2 L k p j)=us at *
     go_wp2_with fail
     refine (hcl _ ((Below.refl _ _).alloc (Nat.le_refl _) _) (hW.below hlt ?_)).mono ?_
     ·exact f1.trans ((F4.trans (((Below.refl _ _).alloc (Nat.le_refl _) _).mono F4.size)).mono f1.size)
     rintro e w5 ⟨rfl,f5⟩
     have F5:=F4.trans ((((Below.refl _ wr).alloc (Nat.le_refl _) _).trans (f5.mono (by simp))).mono F4.size)
     clear f5 hcl
     go_wp2_with fail
     go_roundw
     case rel=>exact⟨j+1,by go_num,by omega,congrArg Value.string HS2.out,F5⟩
     case measure=>simp[intOf];omega
    have d6:decide ((j:Int)<(n5:Int))=false:=by simp;omega
    have hjn:j=n5:=by omega
    subst hjn
    have hs3:strB (P2 L k p j)=strB (P1 L (k+1)):=by rw[←hT,hr5]
    clear hs1
    go_wp2_with fail
    go_roundw
    case rel =>
     refine⟨k+1,by go_num,by omega,congrArg Value.string (by first|exact hs3|rfl),f1.trans (F4.mono f1.size),?_⟩
     rw[htk]
     intro x hx
     rcases List.mem_append.1 hx with hx|hx
     ·exact hall x hx
     rw[List.mem_singleton.1 hx];exact hm
    case measure=>simp[intOf];omega
  have d5:decide ((k:Int)<(n:Int))=false:=by simp;omega
  have hkn:k=n:=by omega
  subst hkn
  rw[←hl,List.take_length] at hall
  have hs4:strB (P1 L k)=strB (L.flatMap polS):=by rw[←P1_end,hl]
  have hR2:R=.tuple #[.string (strB (L.flatMap polS)),.int .i64 0]:=by rw[←HR.out,if_pos (List.all_eq_true.2 hall)]
  have HR2:=Lib.hid hR2;clear hR2
  rw[hs4]
  clear hs4
  generalize strB (L.flatMap polS)=ts at *
  go_wp2_with fail
  go_ret2
  exact⟨by rw[HR2.out];rfl,f1⟩
def sp(L:List (List UInt8)):List UInt8:=L.flatMap fun x=>32::x
end Go.Proofs.YtpcdmbajfmnoiaaGreatDoor
