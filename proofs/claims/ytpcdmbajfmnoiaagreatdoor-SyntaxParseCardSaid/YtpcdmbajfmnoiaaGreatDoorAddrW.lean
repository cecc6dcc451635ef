/- What the walks over texts ask of a world; a small number out of a text. Condition: the library's variables hold what they should. -/
import Derived.Test.YtpcdmbajfmnoiaaGreatDoorNetRow
import Derived.Test.YtpcdmbajfmnoiaaGreatDoorShelf
import Derived.Lib.LaidTab
namespace Go.Proofs.YtpcdmbajfmnoiaaGreatDoor
set_option linter.unusedVariables false
set_option linter.unusedSimpArgs false
open Go.RowKit Go.Sort
theorem var_below{w w':World}{n:String}{g B:Nat}{cs:Array Value}(hb:Below B w w')(hg:Tryz.prog.globalNamed n=some g)(hlt:g<B)(h:w.var? Tryz.prog n=some cs):w'.var? Tryz.prog n=some cs:=by
 unfold World.var? at h ⊢
 simp only[hg,Option.bind_some] at h ⊢
 rw[hb.block g hlt]
 exact h
structure LdW(w:World):Prop where
 max:∃m:Int,w.cell? ⟨1,0,none⟩=some (.int .i64 m)
 tab : Lib.TabIs Tryz.prog w "internal/strconv.uint64pow10" .u64 Lib.pow10Tab
 synt : ∃ tp p, w.var? Tryz.prog "strconv.ErrSyntax" = some #[.iface tp p]
 rng : ∃ tp p, w.var? Tryz.prog "strconv.ErrRange" = some #[.iface tp p]
theorem gPow : Tryz.prog.globalNamed "internal/strconv.uint64pow10" = some 0 := by kernel_rfl
theorem gSyn : Tryz.prog.globalNamed "strconv.ErrSyntax" = some 6 := by kernel_rfl
theorem gRng : Tryz.prog.globalNamed "strconv.ErrRange" = some 7 := by kernel_rfl
theorem LdW.lt{w:World}(h:LdW w):7<w.heap.size:=by
 obtain⟨tp,p,ht⟩:=h.rng
 unfold World.var? at ht
 rw[gRng] at ht
 simp only[Option.bind_some] at ht
 rcases Nat.lt_or_ge 7 w.heap.size with h3|h3
 ·exact h3
 rw[Array.getElem?_eq_none (by omega)] at ht
 cases ht
theorem LdW.below{w w':World}(h:LdW w){B:Nat}(hB:7<B)(hb:Below B w w'):LdW w':=by
 obtain⟨⟨m,hm⟩,ht,⟨t1,p1,h1⟩,⟨t2,p2,h2⟩⟩:=h
 exact⟨⟨m,(hb.cell (p:=⟨1,0,none⟩) (by simp only;omega)).trans hm⟩,var_below hb gPow (by omega) ht,⟨t1,p1,var_below hb gSyn (by omega) h1⟩,⟨t2,p2,var_below hb gRng (by omega) h2⟩⟩
theorem itoa_any(v:Int)(w:World)(hW:LdW w)(h0: -9223372036854775808≤v)(h1:v≤9223372036854775807) :
  Calls Tryz.prog 43 #[.int .i64 v] w fun e w'=>e=.returned (.string (strB (Lib.itoa v)))∧Grn w w':=by
 refine (strconv_Itoa v h0 h1 w hW.tab).mono ?_
 rintro e w' ⟨rfl,k,os,rfl⟩
 exact⟨rfl,k,os,rfl⟩
theorem atoi_ok(l:List UInt8)(v:Int)(w:World)(hl:l.length≤1000000)(h:Lib.atoiAll l=.ok v) :
  Calls Tryz.prog 137 #[.string (strB l)] w fun e w'=>e=.returned (.tuple #[.int .i64 v,.nilIface])∧Below w.heap.size w w':=by
 refine (strconv_Atoi_ok (strB l) (by rw[strB_size];omega) v h w).mono ?_
 rintro e w' ⟨rfl,rfl|⟨t,rfl⟩⟩
 ·exact⟨rfl,Below.refl _ _⟩
 exact⟨rfl,Lib.bytesWorld_below w _ t⟩
theorem atoi_no(l:List UInt8)(w:World)(hW:LdW w)(hl:l.length≤1000000)(h:∀v,Lib.atoiAll l≠ .ok v) :
  Calls Tryz.prog 137 #[.string (strB l)] w fun e w'=>∃v N,e=.returned (.tuple #[.int .i64 v,.iface 230 (.pointer (some ⟨N,0,none⟩))])∧Below w.heap.size w w':=by
 rcases ha:Lib.atoiAll l with v|_|_
 ·exact absurd ha (h v)
 ·obtain⟨tp,p,hv⟩:=hW.synt
  refine (strconv_Atoi_syntax_var (strB l) (by rw[strB_size];omega) ha tp p w hv).mono ?_
  rintro e w' ⟨N,rfl,_,_,f⟩
  exact⟨_,N,rfl,f⟩
 obtain⟨tp,p,hv⟩:=hW.rng
 refine (strconv_Atoi_range_var (strB l) (by rw[strB_size];omega) ha tp p w hv).mono ?_
 rintro e w' ⟨N,rfl,_,_,f⟩
 exact⟨_,N,rfl,f⟩
def smallS(l:List UInt8)(most:Int):Int:=match Lib.atoiAll l with
 | .ok v=>if 0≤v∧v≤most∧Lib.itoa v=l then v else -1
 | _=> -1
theorem smallS_ok{l:List UInt8}{most v:Int}(h:Lib.atoiAll l=.ok v)(h0:0≤v)(h1:v≤most)(h2:Lib.itoa v=l):smallS l most=v:=by
 unfold smallS;rw[h];simp only;rw[if_pos ⟨h0,h1,h2⟩]
theorem smallS_not{l:List UInt8}{most v:Int}(h:Lib.atoiAll l=.ok v)(hn:¬(0≤v∧v≤most∧Lib.itoa v=l)):smallS l most= -1:=by
 unfold smallS;rw[h];simp only;rw[if_neg hn]
theorem smallS_no{l:List UInt8}{most:Int}(h:∀v,Lib.atoiAll l≠ .ok v):smallS l most= -1:=by
 unfold smallS
 rcases ha:Lib.atoiAll l with v|_|_
 ·exact absurd ha (h v)
 ·rfl
 rfl
theorem smallS_le(l:List UInt8)(most:Int)(h:0≤most): -1≤smallS l most∧smallS l most≤most:=by
 unfold smallS
 rcases ha:Lib.atoiAll l with v|_|_
 ·simp only
  split
  ·rename_i h;omega
  omega
 ·simp only;omega
 simp only;omega
set_option maxRecDepth 100000 in
set_option maxHeartbeats 2000000 in
theorem small_any(l:List UInt8)(most:Int)(w:World)(hW:LdW w)(hl:l.length≤1000000)(h0:0≤most)(h1:most≤1000) :
  Calls Tryz.prog 175 #[.string (strB l),.int .i64 most] w fun e w'=>e=.returned (.int .i64 (smallS l most))∧Below w.heap.size w w':=by
 obtain⟨r,hr⟩:∃r,smallS l most=r:=⟨_,rfl⟩
 rw[hr]
 have hlt:=hW.lt
 by_cases hok:∃v,Lib.atoiAll l=.ok v
 ·obtain⟨v,hv⟩:=hok
  have ha:=fun w=>atoi_ok l v w hl hv
  by_cases hn:0≤v
  ·have d0:decide (v<0)=false:=by simp;omega
   by_cases hm:v≤most
   ·have d1:decide (most<v)=false:=by simp;omega
    have hi:=fun w h=>itoa_any v w h (by omega) (by omega)
    have db:((strB (Lib.itoa v)).toList==l)=decide (Lib.itoa v=l):=by
     rw[strB_toList,Bool.eq_iff_iff];simp
    have k1:Lib.itoa v=l→r=v:=fun h=>by rw[←hr];exact smallS_ok hv hn hm h
    have k2:Lib.itoa v≠l→r= -1:=fun h=>by rw[←hr];exact smallS_not hv (fun h2=>h h2.2.2)
    clear hr hv
    by_cases he:Lib.itoa v=l
    ·have db2:((strB (Lib.itoa v)).toList==l)=true:=by rw[db,decide_eq_true he]
     have HE:=Lib.hid (k1 he);clear he db
     generalize strB (Lib.itoa v)=s2 at *
     go_enter Tryz.func175,Tryz.ntmps175
     go_wp2_with fail
     refine (ha w).mono ?_
     rintro e w1 ⟨rfl,f1⟩
     go_wp2_with fail
     refine (hi w1 (hW.below hlt f1)).mono ?_
     rintro e w2 ⟨rfl,f2⟩
     have f3:=f1.trans (f2.below.mono f1.size)
     go_wp2_with fail
     go_ret
     exact⟨by rw[HE.out];rfl,f3⟩
    have db2:((strB (Lib.itoa v)).toList==l)=false:=by rw[db,decide_eq_false he]
    have HE:=Lib.hid (k2 he);clear he db
    generalize strB (Lib.itoa v)=s2 at *
    go_enter Tryz.func175,Tryz.ntmps175
    go_wp2_with fail
    refine (ha w).mono ?_
    rintro e w1 ⟨rfl,f1⟩
    go_wp2_with fail
    refine (hi w1 (hW.below hlt f1)).mono ?_
    rintro e w2 ⟨rfl,f2⟩
    have f3:=f1.trans (f2.below.mono f1.size)
    go_wp2_with fail
    go_ret
    exact⟨by rw[HE.out];rfl,f3⟩
   have d1:decide (most<v)=true:=by simp;omega
   have HR:=Lib.hid (show r= -1 by rw[←hr];exact smallS_not hv (fun h=>hm h.2.1))
   clear hr hv
   go_enter Tryz.func175,Tryz.ntmps175
   go_wp2_with fail
   refine (ha w).mono ?_
   rintro e w1 ⟨rfl,f1⟩
   go_wp2_with fail
   go_ret
   exact⟨by rw[HR.out];rfl,f1⟩
  have d0:decide (v<0)=true:=by simp;omega
  have HR:=Lib.hid (show r= -1 by rw[←hr];exact smallS_not hv (fun h=>hn h.1))
  clear hr hv
  go_enter Tryz.func175,Tryz.ntmps175
  go_wp2_with fail
  refine (ha w).mono ?_
  rintro e w1 ⟨rfl,f1⟩
  go_wp2_with fail
  go_ret
  exact⟨by rw[HR.out];rfl,f1⟩
 have hno:∀v,Lib.atoiAll l≠ .ok v:=fun v h=>hok ⟨v,h⟩
 have HR:=Lib.hid (show r= -1 by rw[←hr];exact smallS_no hno)
 have ha:=atoi_no l w hW hl hno
 clear hr hno hok
 go_enter Tryz.func175,Tryz.ntmps175
 go_wp2_with fail
 refine ha.mono ?_
 rintro e w1 ⟨v,N,rfl,f1⟩
 go_wp2_with fail
 go_ret
 exact⟨by rw[HR.out];rfl,f1⟩
end Go.Proofs.YtpcdmbajfmnoiaaGreatDoor
