/- The law SyntaxParse: true. Conditions: the library's variables hold what they should. -/
import Derived.Test.YtpcdmbajfmnoiaaGreatDoorSynSame
import Derived.Test.YtpcdmbajfmnoiaaGreatDoorSynAwake
import Derived.Test.YtpcdmbajfmnoiaaGreatDoorSynPsR
import Derived.Test.YtpcdmbajfmnoiaaGreatDoorRsPsAll
namespace Go.Proofs.YtpcdmbajfmnoiaaGreatDoor
set_option linter.unusedVariables false
set_option linter.unusedSimpArgs false
open Go.RowKit Go.Sort
set_option maxRecDepth 100000 in
set_option maxHeartbeats 8000000 in
theorem syntaxParse_walk(w:World)(hW:LdW w)(l:List UInt8)(hx:l.length≤maxLen) :
  Calls Tryz.prog 4 #[.string (strB l)] w fun e w'=>e=.returned (.bool true)∧Below w.heap.size w w':=by
 have hlo:=hW.lt
 have hA:=fun(u:World)(hu:Below w.heap.size w u)=>awake15_any u (hW.below hlo hu)
 have f0:=Below.refl w.heap.size w
 by_cases h8:80000<l.length
 ·have z1:(80000:Int)<((strB l).size:Int):=by rw[strB_size];omega
  have hA0:=hA w f0
  clear hx
  go_enter Tryz.func4,Tryz.ntmps4
  go_wp2_with fail
  refine hA0.mono ?_
  rintro e wz ⟨rfl,fz⟩
  go_wp2_with fail
  go_ret
  exact⟨rfl,fz⟩
 have z1:¬(80000:Int)<((strB l).size:Int):=by rw[strB_size];omega
 have hS0:∀u:World,Calls Tryz.prog 15 #[.slice none 0 0,.slice none 0 0] u fun e w'=>e=.returned (.bool true)∧Below u.heap.size u w':=fun u=>(same15_any none 0 0 [] none 0 0 [] u RdG.nil RdG.nil (by simp) (by simp) (by omega)).mono fun e w' h=>⟨by rw[h.1,decide_eq_true (rfl:([]:List Po)=[])],h.2⟩
 rcases Nat.lt_or_ge 65536 l.length with h6|h6
 ·have hp:=psParse_long l w h6
  have hr:=fun u=>rParse_long l u h6
  clear hx
  generalize strB l=sl at *
  go_enter Tryz.func4,Tryz.ntmps4
  go_wp2_with fail
  refine hp.mono ?_
  rintro e w1 ⟨rfl,f1⟩
  have hr1:=hr w1
  clear hp
  go_wp2_with fail
  refine hr1.mono ?_
  rintro e w2 ⟨rfl,f2⟩
  have F2:=f1.trans (f2.mono f1.size)
  have hs2:=hS0 w2
  clear hr1 hr f1 f2 hS0
  go_wp2_with fail
  refine hs2.mono ?_
  rintro e w3 ⟨rfl,f3⟩
  have F3:=F2.trans (f3.mono F2.size)
  have hA3:=hA w3 F3
  clear hs2 f3
  go_wp2_with fail
  refine hA3.mono ?_
  rintro e wz ⟨rfl,fz⟩
  go_wp2_with fail
  go_ret
  exact⟨rfl,F3.trans (fz.mono F3.size)⟩
 have hp:=psParse_rd l w hW h6
 have hr:=fun u=>rParse_any l u h6
 have HPO:=fun L (h:parseS l=.ok L)=>parse_ok (by omega) h
 clear hx
 generalize strB l=sl at *
 go_enter Tryz.func4,Tryz.ntmps4
 go_wp2_with fail
 refine hp.mono ?_
 rintro e w1 ⟨f1,h1⟩
 have hr1:=hr w1
 clear hp hr
 rcases h1 with ⟨L,A1,c1,h1,rfl,r1⟩|⟨m1,hm1,h1,rfl⟩
 ·go_wp2_with fail
  refine hr1.mono ?_
  rintro e w2 ⟨f2,h2⟩
  have F2:=f1.trans (f2.mono f1.size)
  rcases h2 with ⟨L2,A2,c2,h2,rfl,r2⟩|⟨m2,hm2,h2,rfl⟩
  ·rw[h1] at h2
   injection h2 with h2
   subst h2
   have hok:=HPO L h1
   have hs2:=same15_any A1 L.length c1 L A2 L.length c2 L w2 (r1.mono f2.size f2 fun _ _ h=>PoP.mono h f2.size f2) r2 hok.1 hok.1 (by have:=hok.2;omega)
   rw[show decide (L=L)=true from decide_eq_true rfl] at hs2
   clear hr1 f1 f2 hS0 r1 r2 hok HPO h1
   generalize L.length=nl at *
   go_wp2_with fail
   refine hs2.mono ?_
   rintro e w3 ⟨rfl,f3⟩
   have F3:=F2.trans (f3.mono F2.size)
   have hA3:=hA w3 F3
   clear hs2 f3
   go_wp2_with fail
   refine hA3.mono ?_
   rintro e wz ⟨rfl,fz⟩
   go_wp2_with fail
   go_ret
   exact⟨rfl,F3.trans (fz.mono F3.size)⟩
  rw[h1] at h2
  cases h2
 go_wp2_with fail
 refine hr1.mono ?_
 rintro e w2 ⟨f2,h2⟩
 have F2:=f1.trans (f2.mono f1.size)
 rcases h2 with ⟨L2,A2,c2,h2,rfl,r2⟩|⟨m2,hm2,h2,rfl⟩
 ·rw[h1] at h2
  cases h2
 rw[h1] at h2
 injection h2 with h2
 subst h2
 have hs2:=hS0 w2
 clear hr1 f1 f2 hS0 HPO h1 hm1 hm2
 generalize (m1:Int)=mi at *
 go_wp2_with fail
 refine hs2.mono ?_
 rintro e w3 ⟨rfl,f3⟩
 have F3:=F2.trans (f3.mono F2.size)
 have hA3:=hA w3 F3
 clear hs2 f3
 go_wp2_with fail
 refine hA3.mono ?_
 rintro e wz ⟨rfl,fz⟩
 go_wp2_with fail
 go_ret
 exact⟨rfl,F3.trans (fz.mono F3.size)⟩
end Go.Proofs.YtpcdmbajfmnoiaaGreatDoor
