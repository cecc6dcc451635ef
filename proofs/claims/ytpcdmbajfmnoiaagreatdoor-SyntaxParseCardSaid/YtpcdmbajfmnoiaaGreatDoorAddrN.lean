/- addr.ParseNet, PrintNet. Conditions: texts of a million bytes at most; the library's variables hold what they should. -/
import Derived.Test.YtpcdmbajfmnoiaaGreatDoorAddrQ
namespace Go.Proofs.YtpcdmbajfmnoiaaGreatDoor
set_option linter.unusedVariables false
set_option linter.unusedSimpArgs false
open Go.RowKit Go.Sort
theorem Blk.sizedT{w:World}{g t:Nat}{cs:List Value}(h:Blk w g t cs){fn:Func}{p u:Tmp}{ty:TypeId}(hf:fn.results=#[.cell p ty,.tmp u])(tmps:Array Value){P:Program}(hp:tmps.getD p undef=.pointer (some ⟨g,0,none⟩)){d:TypeDesc}
  (hu:P.underlying ty=some d) (hi:(P.info? ty).map (·.size)=some cs.length) (hd:d.isRow=true:=by rfl):(results fn tmps).run P w=.ok (.tuple #[.agg cs.toArray,tmps.getD u undef]) w:=by
 have hp':tmps[p]?.getD undef=.pointer (some ⟨g,0,none⟩):=by simpa using hp
 have h1:(loadVar ty ⟨g,0,none⟩).run P w=.ok (.agg cs.toArray) w:=by
  cases d<;>first|exact run_loadVar_row (P:=P) w g t ty cs.toArray (0,0) _ h hu rfl (by simpa using hi)|cases hd
 simp[results,hf,hp',asAddr,h1]
theorem cut_len(l p:List UInt8):(Lib.cut l p).1.length≤l.length∧(Lib.cut l p).2.1.length≤l.length:=by
 unfold Lib.cut
 split
 ·simp only[List.length_take,List.length_drop];omega
 simp
def parseNetA(l:List UInt8):Option Nt:=if (Lib.cut l [47]).2.2=true then
  match parseA (Lib.cut l [47]).1 with
  | some a=>if nMay (a,smallS (Lib.cut l [47]).2.1 32)=true then some (a,smallS (Lib.cut l [47]).2.1 32) else none
  | none=>none
 else none
def pnV:Option Nt→Value
 | some c=>.tuple #[ntV c.1 c.2,.int .i64 0]
 | none=>.tuple #[ntV 0 0,.int .i64 2]
theorem cut_any(l:List UInt8)(w:World)(hW:LdW w)(hl:l.length≤1000000) :
  Calls Tryz.prog 50 #[.string (strB l),.string ⟨#[47]⟩] w fun e w'=>e=.returned (.tuple #[.string (strB (Lib.cut l [47]).1),.string (strB (Lib.cut l [47]).2.1),.bool (Lib.cut l [47]).2.2])∧Below w.heap.size w w':=by
 obtain⟨m,hm⟩:=hW.max
 refine (strings_Cut (strB l) ⟨#[47]⟩ m w (by rw[strB_size];omega) hm).mono ?_
 rintro e w' ⟨rfl,n,rfl⟩
 exact⟨rfl,belowN (Below.refl _ w) n⟩
set_option maxRecDepth 100000 in
set_option maxHeartbeats 4000000 in
theorem parseNet_any(l:List UInt8)(hl:l.length≤1000000)(w:World)(hW:LdW w) :
  Calls Tryz.prog 136 #[.string (strB l)] w fun e w'=>e=.returned (pnV (parseNetA l))∧Below w.heap.size w w':=by
 have hlt:=hW.lt
 have HI:=Lib.hid (show (Tryz.prog.info? 85).map (·.size)=some 2 by kernel_rfl)
 obtain⟨r,hr⟩:∃r,parseNetA l=r:=⟨_,rfl⟩
 rw[hr]
 unfold parseNetA at hr
 have hcl:=cut_len l [47]
 have hcut:=fun w h=>cut_any l w h hl
 obtain⟨C,hC⟩:∃C,Lib.cut l [47]=C:=⟨_,rfl⟩
 rw[hC] at hr hcl hcut
 clear hC
 obtain⟨ca,cb,ok⟩:=C
 simp only at hr hcl hcut
 have hpa:=fun w h=>parse_any ca (by omega) w h
 have hsm:=fun w h=>small_any cb 32 w h (by omega) (by omega) (by omega)
 have hsl:=smallS_le cb 32 (by omega)
 obtain⟨sv,hsv⟩:∃v,smallS cb 32=v:=⟨_,rfl⟩
 rw[hsv] at hr hsm hsl
 clear hsv hcl
 rcases hp:parseA ca with _|av
 ·have HR:=Lib.hid (show r=none by rw[←hr,hp];split<;>rfl)
  rw[hp] at hpa
  clear hr hp
  cases ok
  ·have L1:=hW.below hlt ((Below.refl _ w).alloc (Nat.le_refl _) (.cells #[.int .u32 0,.int .i64 0] 85))
   have k0:=Blk.newAt (w:=w) rfl 85 #[.int .u32 0,.int .i64 0]
   go_enter Tryz.func136,Tryz.ntmps136
   go_wp2_with fail
   refine (hcut _ L1).mono ?_
   rintro e w2 ⟨rfl,f2⟩
   have k2:=k0.below f2 k0.lt
   have f3:Below w.heap.size w w2:=((Below.refl _ w).alloc (Nat.le_refl _) _).trans (f2.mono (by simp))
   have hlt2:w.heap.size<w2.heap.size:=k2.lt
   clear L1 k0 f2
   go_wp2_with fail
   refine (hpa w2 (hW.below hlt f3)).mono ?_
   rintro e w4 ⟨rfl,f4⟩
   have k4:=k2.below f4 hlt2
   have f5:=f3.trans (f4.mono f3.size)
   have hlt4:w.heap.size<w4.heap.size:=k4.lt
   clear f3 k2 f4
   unfold paV
   go_wp2_with fail
   refine (hsm w4 (hW.below hlt f5)).mono ?_
   rintro e w6 ⟨rfl,f6⟩
   have k6:=k4.below f6 hlt4
   have f7:=f5.trans (f6.mono f5.size)
   have hlt6:w.heap.size<w6.heap.size:=k6.lt
   clear f5 k4 f6
   have c0:=k6.cell 0
   have c1:=k6.cell 1
   have g0:=k6.frozen 0
   have g1:=k6.frozen 1
   simp only[List.getElem?_cons_zero,List.getElem?_cons_succ] at c0 c1
   have k9:=((k6.set 0 (.int .u32 0)).set 1 (.int .i64 0)).alloc (.cells #[.int .u32 0,.int .i64 sv] 85)
   have f9:=((f7.setCell (p:=⟨w.heap.size,0,none⟩) (Nat.le_refl _) (.int .u32 0)).setCell (p:=⟨w.heap.size,1,none⟩) (Nat.le_refl _) (.int .i64 0)).alloc (by simpa using f7.size) (.cells #[.int .u32 0,.int .i64 sv] 85)
   have hne:¬w.heap.size=w6.heap.size:=by omega
   have hne2:¬w6.heap.size=w.heap.size:=by omega
   clear k6 f7
   go_wp2_with fail
   refine bodyPost_ret (k9.sizedT rfl _ rfl Tryz.underlying85 HI.out) rfl ⟨?_,f9⟩
   rw[HR.out]
   rfl
  have L1:=hW.below hlt ((Below.refl _ w).alloc (Nat.le_refl _) (.cells #[.int .u32 0,.int .i64 0] 85))
  have k0:=Blk.newAt (w:=w) rfl 85 #[.int .u32 0,.int .i64 0]
  go_enter Tryz.func136,Tryz.ntmps136
  go_wp2_with fail
  refine (hcut _ L1).mono ?_
  rintro e w2 ⟨rfl,f2⟩
  have k2:=k0.below f2 k0.lt
  have f3:Below w.heap.size w w2:=((Below.refl _ w).alloc (Nat.le_refl _) _).trans (f2.mono (by simp))
  have hlt2:w.heap.size<w2.heap.size:=k2.lt
  clear L1 k0 f2
  go_wp2_with fail
  refine (hpa w2 (hW.below hlt f3)).mono ?_
  rintro e w4 ⟨rfl,f4⟩
  have k4:=k2.below f4 hlt2
  have f5:=f3.trans (f4.mono f3.size)
  have hlt4:w.heap.size<w4.heap.size:=k4.lt
  clear f3 k2 f4
  unfold paV
  go_wp2_with fail
  refine (hsm w4 (hW.below hlt f5)).mono ?_
  rintro e w6 ⟨rfl,f6⟩
  have k6:=k4.below f6 hlt4
  have f7:=f5.trans (f6.mono f5.size)
  have hlt6:w.heap.size<w6.heap.size:=k6.lt
  clear f5 k4 f6
  have c0:=k6.cell 0
  have c1:=k6.cell 1
  have g0:=k6.frozen 0
  have g1:=k6.frozen 1
  simp only[List.getElem?_cons_zero,List.getElem?_cons_succ] at c0 c1
  have k9:=((k6.set 0 (.int .u32 0)).set 1 (.int .i64 0)).alloc (.cells #[.int .u32 0,.int .i64 sv] 85)
  have f9:=((f7.setCell (p:=⟨w.heap.size,0,none⟩) (Nat.le_refl _) (.int .u32 0)).setCell (p:=⟨w.heap.size,1,none⟩) (Nat.le_refl _) (.int .i64 0)).alloc (by simpa using f7.size) (.cells #[.int .u32 0,.int .i64 sv] 85)
  have hne:¬w.heap.size=w6.heap.size:=by omega
  have hne2:¬w6.heap.size=w.heap.size:=by omega
  clear k6 f7
  go_wp2_with fail
  refine bodyPost_ret (k9.sizedT rfl _ rfl Tryz.underlying85 HI.out) rfl ⟨?_,f9⟩
  rw[HR.out]
  rfl
 have hav:=parseA_lt hp
 rw[hp] at hpa hr
 simp only at hr
 clear hp
 cases ok
 ·have HR:=Lib.hid (show r=none by rw[←hr];rfl)
  clear hr
  have L1:=hW.below hlt ((Below.refl _ w).alloc (Nat.le_refl _) (.cells #[.int .u32 0,.int .i64 0] 85))
  have k0:=Blk.newAt (w:=w) rfl 85 #[.int .u32 0,.int .i64 0]
  go_enter Tryz.func136,Tryz.ntmps136
  go_wp2_with fail
  refine (hcut _ L1).mono ?_
  rintro e w2 ⟨rfl,f2⟩
  have k2:=k0.below f2 k0.lt
  have f3:Below w.heap.size w w2:=((Below.refl _ w).alloc (Nat.le_refl _) _).trans (f2.mono (by simp))
  have hlt2:w.heap.size<w2.heap.size:=k2.lt
  clear L1 k0 f2
  go_wp2_with fail
  refine (hpa w2 (hW.below hlt f3)).mono ?_
  rintro e w4 ⟨rfl,f4⟩
  have k4:=k2.below f4 hlt2
  have f5:=f3.trans (f4.mono f3.size)
  have hlt4:w.heap.size<w4.heap.size:=k4.lt
  clear f3 k2 f4
  unfold paV
  go_wp2_with fail
  refine (hsm w4 (hW.below hlt f5)).mono ?_
  rintro e w6 ⟨rfl,f6⟩
  have k6:=k4.below f6 hlt4
  have f7:=f5.trans (f6.mono f5.size)
  have hlt6:w.heap.size<w6.heap.size:=k6.lt
  clear f5 k4 f6
  have c0:=k6.cell 0
  have c1:=k6.cell 1
  have g0:=k6.frozen 0
  have g1:=k6.frozen 1
  simp only[List.getElem?_cons_zero,List.getElem?_cons_succ] at c0 c1
  have k9:=((k6.set 0 (.int .u32 0)).set 1 (.int .i64 0)).alloc (.cells #[.int .u32 (av:Int),.int .i64 sv] 85)
  have f9:=((f7.setCell (p:=⟨w.heap.size,0,none⟩) (Nat.le_refl _) (.int .u32 0)).setCell (p:=⟨w.heap.size,1,none⟩) (Nat.le_refl _) (.int .i64 0)).alloc (by simpa using f7.size) (.cells #[.int .u32 (av:Int),.int .i64 sv] 85)
  have hne:¬w.heap.size=w6.heap.size:=by omega
  have hne2:¬w6.heap.size=w.heap.size:=by omega
  clear k6 f7
  go_wp2_with fail
  refine bodyPost_ret (k9.sizedT rfl _ rfl Tryz.underlying85 HI.out) rfl ⟨?_,f9⟩
  rw[HR.out]
  rfl
 rw[if_pos rfl] at hr
 have hmay:=fun w=>may_any av sv w ⟨hav,by show _≤sv;omega,by show sv≤_;omega⟩
 unfold ntV at hmay
 cases hm:nMay (av,sv)
 ·rw[hm] at hr hmay
  have HR:=Lib.hid (show r=none by rw[←hr];rfl)
  clear hr
  have L1:=hW.below hlt ((Below.refl _ w).alloc (Nat.le_refl _) (.cells #[.int .u32 0,.int .i64 0] 85))
  have k0:=Blk.newAt (w:=w) rfl 85 #[.int .u32 0,.int .i64 0]
  go_enter Tryz.func136,Tryz.ntmps136
  go_wp2_with fail
  refine (hcut _ L1).mono ?_
  rintro e w2 ⟨rfl,f2⟩
  have k2:=k0.below f2 k0.lt
  have f3:Below w.heap.size w w2:=((Below.refl _ w).alloc (Nat.le_refl _) _).trans (f2.mono (by simp))
  have hlt2:w.heap.size<w2.heap.size:=k2.lt
  clear L1 k0 f2
  go_wp2_with fail
  refine (hpa w2 (hW.below hlt f3)).mono ?_
  rintro e w4 ⟨rfl,f4⟩
  have k4:=k2.below f4 hlt2
  have f5:=f3.trans (f4.mono f3.size)
  have hlt4:w.heap.size<w4.heap.size:=k4.lt
  clear f3 k2 f4
  unfold paV
  go_wp2_with fail
  refine (hsm w4 (hW.below hlt f5)).mono ?_
  rintro e w6 ⟨rfl,f6⟩
  have k6:=k4.below f6 hlt4
  have f7:=f5.trans (f6.mono f5.size)
  have hlt6:w.heap.size<w6.heap.size:=k6.lt
  clear f5 k4 f6
  have k8:=(k6.alloc (.cells #[.int .u32 (av:Int),.int .i64 sv] 85))
  have f8:=f7.alloc f7.size (.cells #[.int .u32 (av:Int),.int .i64 sv] 85)
  have hne:¬w.heap.size=w6.heap.size:=by omega
  have hne2:¬w6.heap.size=w.heap.size:=by omega
  go_wp2_with fail
  refine (hmay _).mono ?_
  rintro e w8 ⟨rfl,f8'⟩
  have k10:=k8.below f8'.below k8.lt
  have f10:=f8.trans (f8'.below.mono f8.size)
  clear k8 f8 f8' k6 f7
  have c0:=k10.cell 0
  have c1:=k10.cell 1
  have g0:=k10.frozen 0
  have g1:=k10.frozen 1
  simp only[List.getElem?_cons_zero,List.getElem?_cons_succ] at c0 c1
  have k9:=(k10.set 0 (.int .u32 0)).set 1 (.int .i64 0)
  have f9:=(f10.setCell (p:=⟨w.heap.size,0,none⟩) (Nat.le_refl _) (.int .u32 0)).setCell (p:=⟨w.heap.size,1,none⟩) (Nat.le_refl _) (.int .i64 0)
  go_wp2_with fail
  refine bodyPost_ret (k9.sizedT rfl _ rfl Tryz.underlying85 HI.out) rfl ⟨?_,f9⟩
  rw[HR.out]
  rfl
 rw[hm] at hr hmay
 have HR:=Lib.hid (show r=some (av,sv) by rw[←hr];rfl)
 clear hr
 have L1:=hW.below hlt ((Below.refl _ w).alloc (Nat.le_refl _) (.cells #[.int .u32 0,.int .i64 0] 85))
 have k0:=Blk.newAt (w:=w) rfl 85 #[.int .u32 0,.int .i64 0]
 go_enter Tryz.func136,Tryz.ntmps136
 go_wp2_with fail
 refine (hcut _ L1).mono ?_
 rintro e w2 ⟨rfl,f2⟩
 have k2:=k0.below f2 k0.lt
 have f3:Below w.heap.size w w2:=((Below.refl _ w).alloc (Nat.le_refl _) _).trans (f2.mono (by simp))
 have hlt2:w.heap.size<w2.heap.size:=k2.lt
 clear L1 k0 f2
 go_wp2_with fail
 refine (hpa w2 (hW.below hlt f3)).mono ?_
 rintro e w4 ⟨rfl,f4⟩
 have k4:=k2.below f4 hlt2
 have f5:=f3.trans (f4.mono f3.size)
 have hlt4:w.heap.size<w4.heap.size:=k4.lt
 clear f3 k2 f4
 unfold paV
 go_wp2_with fail
 refine (hsm w4 (hW.below hlt f5)).mono ?_
 rintro e w6 ⟨rfl,f6⟩
 have k6:=k4.below f6 hlt4
 have f7:=f5.trans (f6.mono f5.size)
 have hlt6:w.heap.size<w6.heap.size:=k6.lt
 clear f5 k4 f6
 have k8:=(k6.alloc (.cells #[.int .u32 (av:Int),.int .i64 sv] 85))
 have f8:=f7.alloc f7.size (.cells #[.int .u32 (av:Int),.int .i64 sv] 85)
 have hne:¬w.heap.size=w6.heap.size:=by omega
 have hne2:¬w6.heap.size=w.heap.size:=by omega
 have hbx:=box_cells w6 av sv
 go_wp2_with fail
 refine (hmay _).mono ?_
 rintro e w8 ⟨rfl,f8'⟩
 have k10:=k8.below f8'.below k8.lt
 obtain⟨q0,q1⟩:=BxS.below hbx f8'.below
 have f10:=f8.trans (f8'.below.mono f8.size)
 clear k8 f8 f8' k6 f7 hbx
 have c0:=k10.cell 0
 have c1:=k10.cell 1
 have g0:=k10.frozen 0
 have g1:=k10.frozen 1
 simp only[List.getElem?_cons_zero,List.getElem?_cons_succ] at c0 c1
 have k9:=(k10.set 0 (.int .u32 (av:Int))).set 1 (.int .i64 sv)
 have f9:=(f10.setCell (p:=⟨w.heap.size,0,none⟩) (Nat.le_refl _) (.int .u32 (av:Int))).setCell (p:=⟨w.heap.size,1,none⟩) (Nat.le_refl _) (.int .i64 sv)
 go_wp2_with fail
 refine bodyPost_ret (k9.sizedT rfl _ rfl Tryz.underlying85 HI.out) rfl ⟨?_,f9⟩
 rw[HR.out]
 rfl
end Go.Proofs.YtpcdmbajfmnoiaaGreatDoor
