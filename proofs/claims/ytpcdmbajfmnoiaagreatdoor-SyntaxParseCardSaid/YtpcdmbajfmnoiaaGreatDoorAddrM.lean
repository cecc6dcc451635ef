/- Nets as the program has them: masks, what may be. Condition: an address of 32 bits, bits that fit an int. -/
import Derived.Test.YtpcdmbajfmnoiaaGreatDoorNetsAll
import Derived.Test.YtpcdmbajfmnoiaaGreatDoorBase
import Derived.Test.YtpcdmbajfmnoiaaGreatDoorChecked
import Derived.Test.YtpcdmbajfmnoiaaGreatDoorOrder
import Derived.Sort.Grow
import Derived.Lib.Hide
import Derived.BigQuiet
import Derived.Deep.QuietTactic
namespace Go.Proofs.YtpcdmbajfmnoiaaGreatDoor
set_option linter.unusedVariables false
set_option linter.unusedSimpArgs false
open Go.RowKit Go.Sort
def okN(c:Nt):Prop:=c.1<4294967296∧ -9223372036854775808≤c.2∧c.2≤9223372036854775807
def ntC(c:Nt):List Value:=[.int .u32 (c.1:Int),.int .i64 c.2]
def ntV(a:Nat)(b:Int):Value:=.agg #[.int .u32 (a:Int),.int .i64 b]
theorem mask_all:∀k:Fin 33,IntKind.u64.wrap (4294967296-IntKind.u64.wrap ((2:Int)^k.val))%4294967296=((4294967296-2^k.val:Nat):Int):=by decide +kernel
theorem mask_val{b:Int}{k:Nat}(e:(32-min (max b 0) 32).toNat=k):IntKind.u64.wrap (4294967296-IntKind.u64.wrap ((2:Int)^k))%4294967296=(nMask b:Int):=by
 have:=mask_all ⟨k,by omega⟩
 rw[nMask,e]
 exact this
theorem ret_u32{a b:Int}(h:a=b):Ending.returned (.int .u32 a)=.returned (.int .u32 b):=by rw[h]
set_option maxRecDepth 100000 in
set_option maxHeartbeats 1000000 in
theorem mask_any(b:Int)(w:World)(h0: -9223372036854775808≤b)(h1:b≤9223372036854775807) :
  Calls Tryz.prog 125 #[.int .i64 b] w fun e w'=>e=.returned (.int .u32 (nMask b:Int))∧w=w':=by
 have k0:32<b→IntKind.u64.wrap (4294967296-IntKind.u64.wrap 1)%4294967296=(nMask b:Int):=fun h=>mask_val (k:=0) (by omega)
 have k1:b<0→IntKind.u64.wrap (4294967296-IntKind.u64.wrap 4294967296)%4294967296=(nMask b:Int):=fun h=>mask_val (k:=32) (by omega)
 have k2:0≤b→b≤32→IntKind.u64.wrap (4294967296-IntKind.u64.wrap (2^(32-b).toNat))%4294967296=(nMask b:Int):=fun h h'=>mask_val (k:=(32-b).toNat) (by omega)
 have K0:=Lib.hid k0;have K1:=Lib.hid k1;have K2:=Lib.hid k2;clear k0 k1 k2
 go_enter Tryz.func125,Tryz.ntmps125
 by_cases c0:b<0
 ·go_wp2_with fail
  go_ret
  exact⟨ret_u32 (K1.out c0),rfl⟩
 by_cases c1:32<b
 ·go_wp2_with fail
  go_ret
  exact⟨ret_u32 (K0.out c1),rfl⟩
 go_wp2_with fail
 go_ret
 exact⟨ret_u32 (K2.out (by omega) (by omega)),rfl⟩
def Grn(w w':World):Prop:=∃(q:Nat)(os:Array Obj),w'=grow (w.drewN q) os
theorem Grn.refl(w:World):Grn w w:=⟨0,#[],by show w=grow w #[];simp[grow]⟩
theorem Grn.alloc{w w':World}(h:Grn w w')(o:Obj):Grn w (w'.alloc o):=by
 obtain⟨q,os,rfl⟩:=h
 exact⟨q,os++#[o],by rw[alloc_eq_grow,grow_grow]⟩
theorem Grn.drewN{w w':World}(h:Grn w w')(n:Nat):Grn w (w'.drewN n):=by
 obtain⟨q,os,rfl⟩:=h
 exact⟨q+n,os,by simp[grow,World.drewN,Nat.add_assoc,Nat.add_comm,Nat.add_left_comm]⟩
theorem Grn.drew{w w':World}(h:Grn w w'):Grn w w'.drew:=by
 obtain⟨q,os,rfl⟩:=h
 exact⟨q+1,os,rfl⟩
theorem Grn.below{w w':World}(h:Grn w w'):Below w.heap.size w w':=by
 obtain⟨q,os,rfl⟩:=h
 refine⟨rfl,rfl,rfl,by simp[grow,World.drewN],fun k hk=>?_⟩
 simp[grow,World.drewN,Array.getElem?_append,hk]
theorem Grn.trans{w w' w'':World}(h:Grn w w')(g:Grn w' w''):Grn w w'':=by
 obtain⟨q,os,rfl⟩:=h
 obtain⟨r,ps,rfl⟩:=g
 exact⟨q+r,os++ps,by simp[grow,World.drewN,Array.append_assoc,Nat.add_assoc,Nat.add_comm,Nat.add_left_comm]⟩
theorem box_cells(w:World)(a:Nat)(b:Int):(w.alloc (.cells #[.int .u32 (a:Int),.int .i64 b] 85)).cell? ⟨w.heap.size,0,none⟩=some (.int .u32 (a:Int))∧(w.alloc (.cells #[.int .u32 (a:Int),.int .i64 b] 85)).cell? ⟨w.heap.size,1,none⟩=some (.int .i64 b) :=
 ⟨(Blk.newAt rfl 85 #[.int .u32 (a:Int),.int .i64 b]).cell 0,(Blk.newAt rfl 85 #[.int .u32 (a:Int),.int .i64 b]).cell 1⟩
set_option maxRecDepth 100000 in
set_option maxHeartbeats 1000000 in
theorem may_any(a:Nat)(b:Int)(w:World)(hc:okN (a,b)) :
  Calls Tryz.prog 74 #[ntV a b] w fun e w'=>e=.returned (.bool (nMay (a,b)))∧Grn w w':=by
 obtain⟨c0,c1,c2⟩:=hc
 simp only at c0 c1 c2
 obtain⟨r,hr⟩:∃r,nMay (a,b)=r:=⟨_,rfl⟩
 have hr2:=nMay_iff (a,b)
 rw[hr] at hr2 ⊢
 simp only at hr2
 have HR:=Lib.hid hr2;clear hr2 hr
 have ha:(0:Int)≤(a:Int):=by omega
 unfold ntV
 go_enter Tryz.func74,Tryz.ntmps74
 go_upto_region 1 with fail
 refine abs (fun w1=>(w1.cell? ⟨w.heap.size,0,none⟩=some (.int .u32 (a:Int))∧w1.cell? ⟨w.heap.size,1,none⟩=some (.int .i64 b))∧Grn w w1) ⟨box_cells w a b,(Grn.refl w).alloc _⟩ ?_
 rintro w1 ⟨⟨e0,e1⟩,f1⟩
 by_cases h0:0≤b
 ·by_cases h1:b≤32
  ·have d0:decide (0≤b)=true:=by simp;omega
   have d1:decide (b≤32)=true:=by simp;omega
   have hn:=and_not_low (a,b) a c0 h0 h1
   simp only at hn
   have he:(((a%nsz (a,b):Nat):Int)==0)=r:=by
    rw[Bool.eq_iff_iff,HR.out,beq_iff_eq]
    omega
   generalize ((a%nsz (a,b):Nat):Int)=y at hn he
   go_quiet ((go_at_call 125;exact Calls.quiet_of_same ((mask_any _ _ c1 c2).mono fun _ _ ⟨h,e⟩=>⟨h,e.symm⟩)))
   go_wp2_with fail
   go_ret
   exact⟨rfl,f1.drewN _⟩
  have d0:decide (0≤b)=true:=by simp;omega
  have d1:decide (b≤32)=false:=by simp;omega
  obtain rfl:r=false:=by rw[←Bool.not_eq_true,HR.out];omega
  go_quiet (fail)
  go_wp2_with fail
  go_ret
  exact⟨rfl,f1.drewN _⟩
 have d0:decide (0≤b)=false:=by simp;omega
 obtain rfl:r=false:=by rw[←Bool.not_eq_true,HR.out];omega
 go_quiet (fail)
 go_wp2_with fail
 go_ret
 exact⟨rfl,f1.drewN _⟩
def BxS(g a:Nat)(b:Int)(u:World):Prop:=u.cell? ⟨g,0,none⟩=some (.int .u32 (a:Int))∧u.cell? ⟨g,1,none⟩=some (.int .i64 b)
theorem BxS.below{g a:Nat}{b:Int}{u v:World}(h:BxS g a b u)(hb:Below u.heap.size u v):BxS g a b v :=
 ⟨(hb.cell (p:=⟨g,0,none⟩) (World.block_lt_of_cell? u _ h.1)).trans h.1,(hb.cell (p:=⟨g,1,none⟩) (World.block_lt_of_cell? u _ h.2)).trans h.2⟩
theorem ntC_len(c:Nt):(ntC c).length=2:=rfl
theorem ntC_one(c:Nt):∀v∈ntC c,v.oneCell'=true:=by
 intro v hv
 simp only[ntC,List.mem_cons,List.mem_nil_iff,or_false] at hv
 rcases hv with rfl|rfl<;>rfl
end Go.Proofs.YtpcdmbajfmnoiaaGreatDoor
