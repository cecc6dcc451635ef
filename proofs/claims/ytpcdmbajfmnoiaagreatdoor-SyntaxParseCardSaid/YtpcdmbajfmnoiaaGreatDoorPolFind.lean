/- slices.IndexFunc and ContainsFunc, policy.all, at each type of a policy's elements. No condition but sizes. Printed by gen_pfind.py. -/
import Derived.Test.YtpcdmbajfmnoiaaGreatDoorPolData
namespace Go.Proofs.YtpcdmbajfmnoiaaGreatDoor
set_option linter.unusedVariables false
set_option linter.unusedSimpArgs false
open Go.RowKit Go.Sort
set_option maxRecDepth 100000 in
set_option maxHeartbeats 2000000 in
theorem ix_allSource(A:Option Addr)(n c:Nat)(pr:Nat→Bool)(w:World)(bx:Nat)(hn:n≤1000000)
  (hel:∀w',Below w.heap.size w w'→∀j,j<n→∃(b off:Nat)(A1:Option Addr)(n1 c1:Nat)(A2:Option Addr)(n2 c2:Nat)(A3:Option Addr)(n3 c3:Nat),A=some ⟨b,off,none⟩∧w'.cell? ⟨b,off+j*3,none⟩=some (.slice A1 n1 c1)∧w'.cell? ⟨b,off+j*3+1,none⟩=some (.slice A2 n2 c2)∧w'.cell? ⟨b,off+j*3+2,none⟩=some (.slice A3 n3 c3)∧Calls Tryz.prog 103 #[.agg #[.slice A1 n1 c1,.slice A2 n2 c2,.slice A3 n3 c3],.pointer (some ⟨bx,0,none⟩)] w' fun e w''=>e=.returned (.bool (pr j))∧Below w'.heap.size w' w'') :
  Calls Tryz.prog 142 #[.slice A n c,.func (.func 103) #[] #[.pointer (some ⟨bx,0,none⟩)]] w fun e w'=>((∃k:Nat,k<n∧pr k=true∧e=.returned (.int .i64 k))∨(e=.returned (.int .i64 (-1))∧∀k,k<n→pr k=false))∧Below w.heap.size w w':=by
 have HEL:=Lib.hid hel;clear hel
 go_enter Tryz.func142,Tryz.ntmps142
 go_wp2_with fail
 go_loopw [8,5] (fun v8 v5 wr=>∃k:Nat,v8=.int .i64 k∧k≤n∧(∀j,j<k→pr j=false)∧Below w.heap.size w wr) (fun v8 _ _=>n-(intOf v8).toNat)
 case atStart=>exact⟨0,rfl,Nat.zero_le _,fun j hj=>absurd hj (by omega),Below.refl _ _⟩
 case round =>
  obtain⟨k,rfl,hk,hall,f1⟩:=hrel
  have HALL:=Lib.hid hall;clear hall
  by_cases hlt:k<n
  ·have d1:decide ((k:Int)<(n:Int))=true:=by simp;omega
   have b1:(0:Int)≤(k:Int):=by omega
   have b2:(k:Int)<(n:Int):=by omega
   obtain⟨b,off,A1,n1,c1,A2,n2,c2,A3,n3,c3,rfl,q0,q1,q2,hcall⟩:=HEL.out wr f1 k hlt
   obtain⟨p,hp⟩:∃p,pr k=p:=⟨_,rfl⟩
   rw[hp] at hcall
   have HP:=Lib.hid hp;clear hp
   have HC:=Lib.hid hcall;clear hcall
   go_wp2_with fail
   refine HC.out.mono ?_
   rintro e w2 ⟨rfl,f2⟩
   have f3:=f1.trans (f2.mono f1.size)
   cases p
   ·go_wp2_with fail
    go_roundw
    case rel =>
     refine⟨k+1,by go_num,by omega,fun j hj=>?_,f3⟩
     by_cases e:j=k
     ·subst e;exact HP.out
     exact HALL.out j (by omega)
    case measure=>simp[intOf];omega
   go_wp2_with fail
   go_ret
   exact⟨.inl ⟨k,hlt,HP.out,rfl⟩,f3⟩
  have d1:decide ((k:Int)<(n:Int))=false:=by simp;omega
  obtain rfl:k=n:=by omega
  go_wp2_with fail
  go_ret
  exact⟨.inr ⟨rfl,HALL.out⟩,f1⟩
set_option maxRecDepth 100000 in
set_option maxHeartbeats 2000000 in
theorem has_allSource(A:Option Addr)(n c:Nat)(pr:Nat→Bool)(w:World)(bx:Nat)(hn:n≤1000000)
  (hel:∀w',Below w.heap.size w w'→∀j,j<n→∃(b off:Nat)(A1:Option Addr)(n1 c1:Nat)(A2:Option Addr)(n2 c2:Nat)(A3:Option Addr)(n3 c3:Nat),A=some ⟨b,off,none⟩∧w'.cell? ⟨b,off+j*3,none⟩=some (.slice A1 n1 c1)∧w'.cell? ⟨b,off+j*3+1,none⟩=some (.slice A2 n2 c2)∧w'.cell? ⟨b,off+j*3+2,none⟩=some (.slice A3 n3 c3)∧Calls Tryz.prog 103 #[.agg #[.slice A1 n1 c1,.slice A2 n2 c2,.slice A3 n3 c3],.pointer (some ⟨bx,0,none⟩)] w' fun e w''=>e=.returned (.bool (pr j))∧Below w'.heap.size w' w'')
  {r:Bool} (hr:r=true↔∃k,k<n∧pr k=true) :
  Calls Tryz.prog 102 #[.slice A n c,.func (.func 103) #[] #[.pointer (some ⟨bx,0,none⟩)]] w fun e w'=>e=.returned (.bool r)∧Below w.heap.size w w':=by
 have hix:=ix_allSource A n c pr w bx hn hel
 have HR:=Lib.hid hr;clear hr hel
 go_enter Tryz.func102,Tryz.ntmps102
 go_wp2_with fail
 refine hix.mono ?_
 rintro e w1 ⟨⟨k,hk,hp,rfl⟩|⟨rfl,hp⟩,f1⟩
 ·obtain rfl:r=true:=HR.out.2 ⟨k,hk,hp⟩
  have d1:decide ((0:Int)≤(k:Int))=true:=by simp
  go_wp2_with fail
  go_ret
  exact⟨rfl,f1⟩
 obtain rfl:r=false:=by
  rw[←Bool.not_eq_true,HR.out]
  rintro ⟨k,hk,h⟩
  rw[hp k hk] at h
  cases h
 go_wp2_with fail
 go_ret
 exact⟨rfl,f1⟩
set_option maxRecDepth 100000 in
set_option maxHeartbeats 2000000 in
theorem all1_Source(A1:Option Addr)(n1 c1:Nat)(A2:Option Addr)(n2 c2:Nat)(A3:Option Addr)(n3 c3:Nat)(bx:Nat)(p:Bool)(w:World)(hb:w.cell? ⟨bx,0,none⟩=some (.func (.func 66) #[] #[]))
  (hc:∀w',Below w.heap.size w w'→Calls Tryz.prog 66 #[.agg #[.slice A1 n1 c1,.slice A2 n2 c2,.slice A3 n3 c3]] w' fun e w''=>e=.returned (.bool p)∧Below w'.heap.size w' w'') :
  Calls Tryz.prog 103 #[.agg #[.slice A1 n1 c1,.slice A2 n2 c2,.slice A3 n3 c3],.pointer (some ⟨bx,0,none⟩)] w fun e w'=>e=.returned (.bool (!p))∧Below w.heap.size w w':=by
 have hlt:=World.block_lt_of_cell? w _ hb
 have HC:=Lib.hid hc;clear hc
 go_enter Tryz.func103,Tryz.ntmps103
 go_wp2_with fail
 refine (HC.out _ ?_).mono ?_
 ·first|exact (Below.refl _ _).alloc (Nat.le_refl _) _|exact Below.refl _ _
 rintro e w2 ⟨rfl,f2⟩
 have f3:=((Below.refl _ w).alloc (Nat.le_refl _) _).trans (f2.mono (by simp))
 go_wp2_with fail
 go_ret
 exact⟨rfl,f3⟩
set_option maxRecDepth 100000 in
set_option maxHeartbeats 2000000 in
theorem all_Source(A:Option Addr)(n c:Nat)(pr:Nat→Bool)(w:World)
  (hel:∀w',Below w.heap.size w w'→∀j,j<n→∃(b off:Nat)(A1:Option Addr)(n1 c1:Nat)(A2:Option Addr)(n2 c2:Nat)(A3:Option Addr)(n3 c3:Nat),A=some ⟨b,off,none⟩∧w'.cell? ⟨b,off+j*3,none⟩=some (.slice A1 n1 c1)∧w'.cell? ⟨b,off+j*3+1,none⟩=some (.slice A2 n2 c2)∧w'.cell? ⟨b,off+j*3+2,none⟩=some (.slice A3 n3 c3)∧∀w'',Below w'.heap.size w' w''→Calls Tryz.prog 66 #[.agg #[.slice A1 n1 c1,.slice A2 n2 c2,.slice A3 n3 c3]] w'' fun e w3=>e=.returned (.bool (pr j))∧Below w''.heap.size w'' w3)
  {r:Bool} (hr:r=true↔n≤3∧∀k,k<n→pr k=true) :
  Calls Tryz.prog 65 #[.int .i64 3,.slice A n c,.func (.func 66) #[] #[]] w fun e w'=>e=.returned (.bool r)∧Below w.heap.size w w':=by
 have HR:=Lib.hid hr;have HEL:=Lib.hid hel;clear hr hel
 by_cases hm:n≤3
 ·have d1:decide ((n:Int)≤3)=true:=by simp;omega
  obtain⟨wb,hwb⟩:∃wb,w.alloc (.cells #[.func (.func 66) #[] #[]] 113)=wb:=⟨_,rfl⟩
  have f0:Below w.heap.size w wb:=by rw[←hwb];exact (Below.refl _ _).alloc (Nat.le_refl _) _
  have hbx:wb.cell? ⟨w.heap.size,0,none⟩=some (.func (.func 66) #[] #[]):=by rw[←hwb];exact (Blk.newAt rfl _ #[.func (.func 66) #[] #[]]).cell 0
  have hhas:=fun r hr=>has_allSource A n c (fun j=> !pr j) wb w.heap.size (by omega) (fun w' h' j hj=>by
   obtain⟨b,off,A1,n1,c1,A2,n2,c2,A3,n3,c3,h1,q0,q1,q2,hcc⟩:=HEL.out w' (f0.trans (h'.mono f0.size)) j hj
   exact⟨b,off,A1,n1,c1,A2,n2,c2,A3,n3,c3,h1,q0,q1,q2,all1_Source A1 n1 c1 A2 n2 c2 A3 n3 c3 w.heap.size (pr j) w' ((h'.cell (World.block_lt_of_cell? wb _ hbx)).trans hbx) hcc⟩) (r:=r) hr
  have hh:=hhas (!r) (by
   constructor
   ·intro h
    have h2:¬r=true:=by simpa using h
    rw[HR.out] at h2
    rcases Classical.em (∃k,k<n∧(!pr k)=true) with h3|h3
    ·exact h3
    refine absurd ⟨hm,fun k hk=>?_⟩ h2
    rcases h4:pr k with _|_
    ·exact absurd ⟨k,hk,by rw[h4];rfl⟩ h3
    rfl
   rintro ⟨k,hk,h⟩
   rcases h5:r with _|_
   ·rfl
   have:=(HR.out.1 h5).2 k hk
   rw[this] at h
   cases h)
  clear hhas
  have HH:=Lib.hid hh;clear hh
  go_enter Tryz.func65,Tryz.ntmps65
  go_wp2_with fail
  refine HH.out.mono ?_
  rintro e w1 ⟨rfl,f1⟩
  have f3:=f0.trans (f1.mono f0.size)
  rcases r with _|_
  all_goals
   go_wp2_with fail
   go_ret
   exact⟨rfl,f3⟩
 have d1:decide ((n:Int)≤3)=false:=by simp;omega
 obtain rfl:r=false:=by
  rw[←Bool.not_eq_true,HR.out]
  exact fun h=>hm h.1
 go_enter Tryz.func65,Tryz.ntmps65
 go_wp2_with fail
 go_ret
 exact⟨rfl,(Below.refl _ _).alloc (Nat.le_refl _) _⟩
set_option maxRecDepth 100000 in
set_option maxHeartbeats 2000000 in
theorem ix_allTarget(A:Option Addr)(n c:Nat)(pr:Nat→Bool)(w:World)(bx:Nat)(hn:n≤1000000)
  (hel:∀w',Below w.heap.size w w'→∀j,j<n→∃(b off:Nat)(A1:Option Addr)(n1 c1:Nat)(A2:Option Addr)(n2 c2:Nat)(A3:Option Addr)(n3 c3:Nat)(A4:Option Addr)(n4 c4:Nat),A=some ⟨b,off,none⟩∧w'.cell? ⟨b,off+j*4,none⟩=some (.slice A1 n1 c1)∧w'.cell? ⟨b,off+j*4+1,none⟩=some (.slice A2 n2 c2)∧w'.cell? ⟨b,off+j*4+2,none⟩=some (.slice A3 n3 c3)∧w'.cell? ⟨b,off+j*4+3,none⟩=some (.slice A4 n4 c4)∧Calls Tryz.prog 107 #[.agg #[.slice A1 n1 c1,.slice A2 n2 c2,.slice A3 n3 c3,.slice A4 n4 c4],.pointer (some ⟨bx,0,none⟩)] w' fun e w''=>e=.returned (.bool (pr j))∧Below w'.heap.size w' w'') :
  Calls Tryz.prog 148 #[.slice A n c,.func (.func 107) #[] #[.pointer (some ⟨bx,0,none⟩)]] w fun e w'=>((∃k:Nat,k<n∧pr k=true∧e=.returned (.int .i64 k))∨(e=.returned (.int .i64 (-1))∧∀k,k<n→pr k=false))∧Below w.heap.size w w':=by
 have HEL:=Lib.hid hel;clear hel
 go_enter Tryz.func148,Tryz.ntmps148
 go_wp2_with fail
 go_loopw [8,5] (fun v8 v5 wr=>∃k:Nat,v8=.int .i64 k∧k≤n∧(∀j,j<k→pr j=false)∧Below w.heap.size w wr) (fun v8 _ _=>n-(intOf v8).toNat)
 case atStart=>exact⟨0,rfl,Nat.zero_le _,fun j hj=>absurd hj (by omega),Below.refl _ _⟩
 case round =>
  obtain⟨k,rfl,hk,hall,f1⟩:=hrel
  have HALL:=Lib.hid hall;clear hall
  by_cases hlt:k<n
  ·have d1:decide ((k:Int)<(n:Int))=true:=by simp;omega
   have b1:(0:Int)≤(k:Int):=by omega
   have b2:(k:Int)<(n:Int):=by omega
   obtain⟨b,off,A1,n1,c1,A2,n2,c2,A3,n3,c3,A4,n4,c4,rfl,q0,q1,q2,q3,hcall⟩:=HEL.out wr f1 k hlt
   obtain⟨p,hp⟩:∃p,pr k=p:=⟨_,rfl⟩
   rw[hp] at hcall
   have HP:=Lib.hid hp;clear hp
   have HC:=Lib.hid hcall;clear hcall
   go_wp2_with fail
   refine HC.out.mono ?_
   rintro e w2 ⟨rfl,f2⟩
   have f3:=f1.trans (f2.mono f1.size)
   cases p
   ·go_wp2_with fail
    go_roundw
    case rel =>
     refine⟨k+1,by go_num,by omega,fun j hj=>?_,f3⟩
     by_cases e:j=k
     ·subst e;exact HP.out
     exact HALL.out j (by omega)
    case measure=>simp[intOf];omega
   go_wp2_with fail
   go_ret
   exact⟨.inl ⟨k,hlt,HP.out,rfl⟩,f3⟩
  have d1:decide ((k:Int)<(n:Int))=false:=by simp;omega
  obtain rfl:k=n:=by omega
  go_wp2_with fail
  go_ret
  exact⟨.inr ⟨rfl,HALL.out⟩,f1⟩
set_option maxRecDepth 100000 in
set_option maxHeartbeats 2000000 in
theorem has_allTarget(A:Option Addr)(n c:Nat)(pr:Nat→Bool)(w:World)(bx:Nat)(hn:n≤1000000)
  (hel:∀w',Below w.heap.size w w'→∀j,j<n→∃(b off:Nat)(A1:Option Addr)(n1 c1:Nat)(A2:Option Addr)(n2 c2:Nat)(A3:Option Addr)(n3 c3:Nat)(A4:Option Addr)(n4 c4:Nat),A=some ⟨b,off,none⟩∧w'.cell? ⟨b,off+j*4,none⟩=some (.slice A1 n1 c1)∧w'.cell? ⟨b,off+j*4+1,none⟩=some (.slice A2 n2 c2)∧w'.cell? ⟨b,off+j*4+2,none⟩=some (.slice A3 n3 c3)∧w'.cell? ⟨b,off+j*4+3,none⟩=some (.slice A4 n4 c4)∧Calls Tryz.prog 107 #[.agg #[.slice A1 n1 c1,.slice A2 n2 c2,.slice A3 n3 c3,.slice A4 n4 c4],.pointer (some ⟨bx,0,none⟩)] w' fun e w''=>e=.returned (.bool (pr j))∧Below w'.heap.size w' w'')
  {r:Bool} (hr:r=true↔∃k,k<n∧pr k=true) :
  Calls Tryz.prog 106 #[.slice A n c,.func (.func 107) #[] #[.pointer (some ⟨bx,0,none⟩)]] w fun e w'=>e=.returned (.bool r)∧Below w.heap.size w w':=by
 have hix:=ix_allTarget A n c pr w bx hn hel
 have HR:=Lib.hid hr;clear hr hel
 go_enter Tryz.func106,Tryz.ntmps106
 go_wp2_with fail
 refine hix.mono ?_
 rintro e w1 ⟨⟨k,hk,hp,rfl⟩|⟨rfl,hp⟩,f1⟩
 ·obtain rfl:r=true:=HR.out.2 ⟨k,hk,hp⟩
  have d1:decide ((0:Int)≤(k:Int))=true:=by simp
  go_wp2_with fail
  go_ret
  exact⟨rfl,f1⟩
 obtain rfl:r=false:=by
  rw[←Bool.not_eq_true,HR.out]
  rintro ⟨k,hk,h⟩
  rw[hp k hk] at h
  cases h
 go_wp2_with fail
 go_ret
 exact⟨rfl,f1⟩
set_option maxRecDepth 100000 in
set_option maxHeartbeats 2000000 in
theorem all1_Target(A1:Option Addr)(n1 c1:Nat)(A2:Option Addr)(n2 c2:Nat)(A3:Option Addr)(n3 c3:Nat)(A4:Option Addr)(n4 c4:Nat)(bx:Nat)(p:Bool)(w:World)(hb:w.cell? ⟨bx,0,none⟩=some (.func (.func 68) #[] #[]))
  (hc:∀w',Below w.heap.size w w'→Calls Tryz.prog 68 #[.agg #[.slice A1 n1 c1,.slice A2 n2 c2,.slice A3 n3 c3,.slice A4 n4 c4]] w' fun e w''=>e=.returned (.bool p)∧Below w'.heap.size w' w'') :
  Calls Tryz.prog 107 #[.agg #[.slice A1 n1 c1,.slice A2 n2 c2,.slice A3 n3 c3,.slice A4 n4 c4],.pointer (some ⟨bx,0,none⟩)] w fun e w'=>e=.returned (.bool (!p))∧Below w.heap.size w w':=by
 have hlt:=World.block_lt_of_cell? w _ hb
 have HC:=Lib.hid hc;clear hc
 go_enter Tryz.func107,Tryz.ntmps107
 go_wp2_with fail
 refine (HC.out _ ?_).mono ?_
 ·first|exact (Below.refl _ _).alloc (Nat.le_refl _) _|exact Below.refl _ _
 rintro e w2 ⟨rfl,f2⟩
 have f3:=((Below.refl _ w).alloc (Nat.le_refl _) _).trans (f2.mono (by simp))
 go_wp2_with fail
 go_ret
 exact⟨rfl,f3⟩
set_option maxRecDepth 100000 in
set_option maxHeartbeats 2000000 in
theorem all_Target(A:Option Addr)(n c:Nat)(pr:Nat→Bool)(w:World)
  (hel:∀w',Below w.heap.size w w'→∀j,j<n→∃(b off:Nat)(A1:Option Addr)(n1 c1:Nat)(A2:Option Addr)(n2 c2:Nat)(A3:Option Addr)(n3 c3:Nat)(A4:Option Addr)(n4 c4:Nat),A=some ⟨b,off,none⟩∧w'.cell? ⟨b,off+j*4,none⟩=some (.slice A1 n1 c1)∧w'.cell? ⟨b,off+j*4+1,none⟩=some (.slice A2 n2 c2)∧w'.cell? ⟨b,off+j*4+2,none⟩=some (.slice A3 n3 c3)∧w'.cell? ⟨b,off+j*4+3,none⟩=some (.slice A4 n4 c4)∧∀w'',Below w'.heap.size w' w''→Calls Tryz.prog 68 #[.agg #[.slice A1 n1 c1,.slice A2 n2 c2,.slice A3 n3 c3,.slice A4 n4 c4]] w'' fun e w3=>e=.returned (.bool (pr j))∧Below w''.heap.size w'' w3)
  {r:Bool} (hr:r=true↔n≤3∧∀k,k<n→pr k=true) :
  Calls Tryz.prog 67 #[.int .i64 3,.slice A n c,.func (.func 68) #[] #[]] w fun e w'=>e=.returned (.bool r)∧Below w.heap.size w w':=by
 have HR:=Lib.hid hr;have HEL:=Lib.hid hel;clear hr hel
 by_cases hm:n≤3
 ·have d1:decide ((n:Int)≤3)=true:=by simp;omega
  obtain⟨wb,hwb⟩:∃wb,w.alloc (.cells #[.func (.func 68) #[] #[]] 115)=wb:=⟨_,rfl⟩
  have f0:Below w.heap.size w wb:=by rw[←hwb];exact (Below.refl _ _).alloc (Nat.le_refl _) _
  have hbx:wb.cell? ⟨w.heap.size,0,none⟩=some (.func (.func 68) #[] #[]):=by rw[←hwb];exact (Blk.newAt rfl _ #[.func (.func 68) #[] #[]]).cell 0
  have hhas:=fun r hr=>has_allTarget A n c (fun j=> !pr j) wb w.heap.size (by omega) (fun w' h' j hj=>by
   obtain⟨b,off,A1,n1,c1,A2,n2,c2,A3,n3,c3,A4,n4,c4,h1,q0,q1,q2,q3,hcc⟩:=HEL.out w' (f0.trans (h'.mono f0.size)) j hj
   exact⟨b,off,A1,n1,c1,A2,n2,c2,A3,n3,c3,A4,n4,c4,h1,q0,q1,q2,q3,all1_Target A1 n1 c1 A2 n2 c2 A3 n3 c3 A4 n4 c4 w.heap.size (pr j) w' ((h'.cell (World.block_lt_of_cell? wb _ hbx)).trans hbx) hcc⟩) (r:=r) hr
  have hh:=hhas (!r) (by
   constructor
   ·intro h
    have h2:¬r=true:=by simpa using h
    rw[HR.out] at h2
    rcases Classical.em (∃k,k<n∧(!pr k)=true) with h3|h3
    ·exact h3
    refine absurd ⟨hm,fun k hk=>?_⟩ h2
    rcases h4:pr k with _|_
    ·exact absurd ⟨k,hk,by rw[h4];rfl⟩ h3
    rfl
   rintro ⟨k,hk,h⟩
   rcases h5:r with _|_
   ·rfl
   have:=(HR.out.1 h5).2 k hk
   rw[this] at h
   cases h)
  clear hhas
  have HH:=Lib.hid hh;clear hh
  go_enter Tryz.func67,Tryz.ntmps67
  go_wp2_with fail
  refine HH.out.mono ?_
  rintro e w1 ⟨rfl,f1⟩
  have f3:=f0.trans (f1.mono f0.size)
  rcases r with _|_
  all_goals
   go_wp2_with fail
   go_ret
   exact⟨rfl,f3⟩
 have d1:decide ((n:Int)≤3)=false:=by simp;omega
 obtain rfl:r=false:=by
  rw[←Bool.not_eq_true,HR.out]
  exact fun h=>hm h.1
 go_enter Tryz.func67,Tryz.ntmps67
 go_wp2_with fail
 go_ret
 exact⟨rfl,(Below.refl _ _).alloc (Nat.le_refl _) _⟩
set_option maxRecDepth 100000 in
set_option maxHeartbeats 2000000 in
theorem ix_allWhen(A:Option Addr)(n c:Nat)(pr:Nat→Bool)(w:World)(bx:Nat)(hn:n≤1000000)
  (hel:∀w',Below w.heap.size w w'→∀j,j<n→∃(b off:Nat)(s1:List UInt8)(A2:Option Addr)(n2 c2:Nat),A=some ⟨b,off,none⟩∧w'.cell? ⟨b,off+j*2,none⟩=some (.string (strB s1))∧w'.cell? ⟨b,off+j*2+1,none⟩=some (.slice A2 n2 c2)∧Calls Tryz.prog 114 #[.agg #[.string (strB s1),.slice A2 n2 c2],.pointer (some ⟨bx,0,none⟩)] w' fun e w''=>e=.returned (.bool (pr j))∧Below w'.heap.size w' w'') :
  Calls Tryz.prog 153 #[.slice A n c,.func (.func 114) #[] #[.pointer (some ⟨bx,0,none⟩)]] w fun e w'=>((∃k:Nat,k<n∧pr k=true∧e=.returned (.int .i64 k))∨(e=.returned (.int .i64 (-1))∧∀k,k<n→pr k=false))∧Below w.heap.size w w':=by
 have HEL:=Lib.hid hel;clear hel
 go_enter Tryz.func153,Tryz.ntmps153
 go_wp2_with fail
 go_loopw [8,5] (fun v8 v5 wr=>∃k:Nat,v8=.int .i64 k∧k≤n∧(∀j,j<k→pr j=false)∧Below w.heap.size w wr) (fun v8 _ _=>n-(intOf v8).toNat)
 case atStart=>exact⟨0,rfl,Nat.zero_le _,fun j hj=>absurd hj (by omega),Below.refl _ _⟩
 case round =>
  obtain⟨k,rfl,hk,hall,f1⟩:=hrel
  have HALL:=Lib.hid hall;clear hall
  by_cases hlt:k<n
  ·have d1:decide ((k:Int)<(n:Int))=true:=by simp;omega
   have b1:(0:Int)≤(k:Int):=by omega
   have b2:(k:Int)<(n:Int):=by omega
   obtain⟨b,off,s1,A2,n2,c2,rfl,q0,q1,hcall⟩:=HEL.out wr f1 k hlt
   obtain⟨p,hp⟩:∃p,pr k=p:=⟨_,rfl⟩
   rw[hp] at hcall
   have HP:=Lib.hid hp;clear hp
   have HC:=Lib.hid hcall;clear hcall
   go_wp2_with fail
   refine HC.out.mono ?_
   rintro e w2 ⟨rfl,f2⟩
   have f3:=f1.trans (f2.mono f1.size)
   cases p
   ·go_wp2_with fail
    go_roundw
    case rel =>
     refine⟨k+1,by go_num,by omega,fun j hj=>?_,f3⟩
     by_cases e:j=k
     ·subst e;exact HP.out
     exact HALL.out j (by omega)
    case measure=>simp[intOf];omega
   go_wp2_with fail
   go_ret
   exact⟨.inl ⟨k,hlt,HP.out,rfl⟩,f3⟩
  have d1:decide ((k:Int)<(n:Int))=false:=by simp;omega
  obtain rfl:k=n:=by omega
  go_wp2_with fail
  go_ret
  exact⟨.inr ⟨rfl,HALL.out⟩,f1⟩
set_option maxRecDepth 100000 in
set_option maxHeartbeats 2000000 in
theorem has_allWhen(A:Option Addr)(n c:Nat)(pr:Nat→Bool)(w:World)(bx:Nat)(hn:n≤1000000)
  (hel:∀w',Below w.heap.size w w'→∀j,j<n→∃(b off:Nat)(s1:List UInt8)(A2:Option Addr)(n2 c2:Nat),A=some ⟨b,off,none⟩∧w'.cell? ⟨b,off+j*2,none⟩=some (.string (strB s1))∧w'.cell? ⟨b,off+j*2+1,none⟩=some (.slice A2 n2 c2)∧Calls Tryz.prog 114 #[.agg #[.string (strB s1),.slice A2 n2 c2],.pointer (some ⟨bx,0,none⟩)] w' fun e w''=>e=.returned (.bool (pr j))∧Below w'.heap.size w' w'')
  {r:Bool} (hr:r=true↔∃k,k<n∧pr k=true) :
  Calls Tryz.prog 113 #[.slice A n c,.func (.func 114) #[] #[.pointer (some ⟨bx,0,none⟩)]] w fun e w'=>e=.returned (.bool r)∧Below w.heap.size w w':=by
 have hix:=ix_allWhen A n c pr w bx hn hel
 have HR:=Lib.hid hr;clear hr hel
 go_enter Tryz.func113,Tryz.ntmps113
 go_wp2_with fail
 refine hix.mono ?_
 rintro e w1 ⟨⟨k,hk,hp,rfl⟩|⟨rfl,hp⟩,f1⟩
 ·obtain rfl:r=true:=HR.out.2 ⟨k,hk,hp⟩
  have d1:decide ((0:Int)≤(k:Int))=true:=by simp
  go_wp2_with fail
  go_ret
  exact⟨rfl,f1⟩
 obtain rfl:r=false:=by
  rw[←Bool.not_eq_true,HR.out]
  rintro ⟨k,hk,h⟩
  rw[hp k hk] at h
  cases h
 go_wp2_with fail
 go_ret
 exact⟨rfl,f1⟩
set_option maxRecDepth 100000 in
set_option maxHeartbeats 2000000 in
theorem all1_When(s1:List UInt8)(A2:Option Addr)(n2 c2:Nat)(bx:Nat)(p:Bool)(w:World)(hb:w.cell? ⟨bx,0,none⟩=some (.func (.func 70) #[] #[]))
  (hc:∀w',Below w.heap.size w w'→Calls Tryz.prog 70 #[.agg #[.string (strB s1),.slice A2 n2 c2]] w' fun e w''=>e=.returned (.bool p)∧Below w'.heap.size w' w'') :
  Calls Tryz.prog 114 #[.agg #[.string (strB s1),.slice A2 n2 c2],.pointer (some ⟨bx,0,none⟩)] w fun e w'=>e=.returned (.bool (!p))∧Below w.heap.size w w':=by
 have hlt:=World.block_lt_of_cell? w _ hb
 have HC:=Lib.hid hc;clear hc
 go_enter Tryz.func114,Tryz.ntmps114
 go_wp2_with fail
 refine (HC.out _ ?_).mono ?_
 ·first|exact (Below.refl _ _).alloc (Nat.le_refl _) _|exact Below.refl _ _
 rintro e w2 ⟨rfl,f2⟩
 have f3:=((Below.refl _ w).alloc (Nat.le_refl _) _).trans (f2.mono (by simp))
 go_wp2_with fail
 go_ret
 exact⟨rfl,f3⟩
set_option maxRecDepth 100000 in
set_option maxHeartbeats 2000000 in
theorem all_When(A:Option Addr)(n c:Nat)(pr:Nat→Bool)(w:World)
  (hel:∀w',Below w.heap.size w w'→∀j,j<n→∃(b off:Nat)(s1:List UInt8)(A2:Option Addr)(n2 c2:Nat),A=some ⟨b,off,none⟩∧w'.cell? ⟨b,off+j*2,none⟩=some (.string (strB s1))∧w'.cell? ⟨b,off+j*2+1,none⟩=some (.slice A2 n2 c2)∧∀w'',Below w'.heap.size w' w''→Calls Tryz.prog 70 #[.agg #[.string (strB s1),.slice A2 n2 c2]] w'' fun e w3=>e=.returned (.bool (pr j))∧Below w''.heap.size w'' w3)
  {r:Bool} (hr:r=true↔n≤3∧∀k,k<n→pr k=true) :
  Calls Tryz.prog 69 #[.int .i64 3,.slice A n c,.func (.func 70) #[] #[]] w fun e w'=>e=.returned (.bool r)∧Below w.heap.size w w':=by
 have HR:=Lib.hid hr;have HEL:=Lib.hid hel;clear hr hel
 by_cases hm:n≤3
 ·have d1:decide ((n:Int)≤3)=true:=by simp;omega
  obtain⟨wb,hwb⟩:∃wb,w.alloc (.cells #[.func (.func 70) #[] #[]] 117)=wb:=⟨_,rfl⟩
  have f0:Below w.heap.size w wb:=by rw[←hwb];exact (Below.refl _ _).alloc (Nat.le_refl _) _
  have hbx:wb.cell? ⟨w.heap.size,0,none⟩=some (.func (.func 70) #[] #[]):=by rw[←hwb];exact (Blk.newAt rfl _ #[.func (.func 70) #[] #[]]).cell 0
  have hhas:=fun r hr=>has_allWhen A n c (fun j=> !pr j) wb w.heap.size (by omega) (fun w' h' j hj=>by
   obtain⟨b,off,s1,A2,n2,c2,h1,q0,q1,hcc⟩:=HEL.out w' (f0.trans (h'.mono f0.size)) j hj
   exact⟨b,off,s1,A2,n2,c2,h1,q0,q1,all1_When s1 A2 n2 c2 w.heap.size (pr j) w' ((h'.cell (World.block_lt_of_cell? wb _ hbx)).trans hbx) hcc⟩) (r:=r) hr
  have hh:=hhas (!r) (by
   constructor
   ·intro h
    have h2:¬r=true:=by simpa using h
    rw[HR.out] at h2
    rcases Classical.em (∃k,k<n∧(!pr k)=true) with h3|h3
    ·exact h3
    refine absurd ⟨hm,fun k hk=>?_⟩ h2
    rcases h4:pr k with _|_
    ·exact absurd ⟨k,hk,by rw[h4];rfl⟩ h3
    rfl
   rintro ⟨k,hk,h⟩
   rcases h5:r with _|_
   ·rfl
   have:=(HR.out.1 h5).2 k hk
   rw[this] at h
   cases h)
  clear hhas
  have HH:=Lib.hid hh;clear hh
  go_enter Tryz.func69,Tryz.ntmps69
  go_wp2_with fail
  refine HH.out.mono ?_
  rintro e w1 ⟨rfl,f1⟩
  have f3:=f0.trans (f1.mono f0.size)
  rcases r with _|_
  all_goals
   go_wp2_with fail
   go_ret
   exact⟨rfl,f3⟩
 have d1:decide ((n:Int)≤3)=false:=by simp;omega
 obtain rfl:r=false:=by
  rw[←Bool.not_eq_true,HR.out]
  exact fun h=>hm h.1
 go_enter Tryz.func69,Tryz.ntmps69
 go_wp2_with fail
 go_ret
 exact⟨rfl,(Below.refl _ _).alloc (Nat.le_refl _) _⟩
set_option maxRecDepth 100000 in
set_option maxHeartbeats 2000000 in
theorem ix_allRule(A:Option Addr)(n c:Nat)(pr:Nat→Bool)(w:World)(bx:Nat)(hn:n≤1000000)
  (hel:∀w',Below w.heap.size w w'→∀j,j<n→∃(b off:Nat)(A1:Option Addr)(n1 c1:Nat)(A2:Option Addr)(n2 c2:Nat)(A3:Option Addr)(n3 c3:Nat),A=some ⟨b,off,none⟩∧w'.cell? ⟨b,off+j*3,none⟩=some (.slice A1 n1 c1)∧w'.cell? ⟨b,off+j*3+1,none⟩=some (.slice A2 n2 c2)∧w'.cell? ⟨b,off+j*3+2,none⟩=some (.slice A3 n3 c3)∧Calls Tryz.prog 64 #[.agg #[.slice A1 n1 c1,.slice A2 n2 c2,.slice A3 n3 c3],.pointer (some ⟨bx,0,none⟩)] w' fun e w''=>e=.returned (.bool (pr j))∧Below w'.heap.size w' w'') :
  Calls Tryz.prog 101 #[.slice A n c,.func (.func 64) #[] #[.pointer (some ⟨bx,0,none⟩)]] w fun e w'=>((∃k:Nat,k<n∧pr k=true∧e=.returned (.int .i64 k))∨(e=.returned (.int .i64 (-1))∧∀k,k<n→pr k=false))∧Below w.heap.size w w':=by
 have HEL:=Lib.hid hel;clear hel
 go_enter Tryz.func101,Tryz.ntmps101
 go_wp2_with fail
 go_loopw [8,5] (fun v8 v5 wr=>∃k:Nat,v8=.int .i64 k∧k≤n∧(∀j,j<k→pr j=false)∧Below w.heap.size w wr) (fun v8 _ _=>n-(intOf v8).toNat)
 case atStart=>exact⟨0,rfl,Nat.zero_le _,fun j hj=>absurd hj (by omega),Below.refl _ _⟩
 case round =>
  obtain⟨k,rfl,hk,hall,f1⟩:=hrel
  have HALL:=Lib.hid hall;clear hall
  by_cases hlt:k<n
  ·have d1:decide ((k:Int)<(n:Int))=true:=by simp;omega
   have b1:(0:Int)≤(k:Int):=by omega
   have b2:(k:Int)<(n:Int):=by omega
   obtain⟨b,off,A1,n1,c1,A2,n2,c2,A3,n3,c3,rfl,q0,q1,q2,hcall⟩:=HEL.out wr f1 k hlt
   obtain⟨p,hp⟩:∃p,pr k=p:=⟨_,rfl⟩
   rw[hp] at hcall
   have HP:=Lib.hid hp;clear hp
   have HC:=Lib.hid hcall;clear hcall
   go_wp2_with fail
   refine HC.out.mono ?_
   rintro e w2 ⟨rfl,f2⟩
   have f3:=f1.trans (f2.mono f1.size)
   cases p
   ·go_wp2_with fail
    go_roundw
    case rel =>
     refine⟨k+1,by go_num,by omega,fun j hj=>?_,f3⟩
     by_cases e:j=k
     ·subst e;exact HP.out
     exact HALL.out j (by omega)
    case measure=>simp[intOf];omega
   go_wp2_with fail
   go_ret
   exact⟨.inl ⟨k,hlt,HP.out,rfl⟩,f3⟩
  have d1:decide ((k:Int)<(n:Int))=false:=by simp;omega
  obtain rfl:k=n:=by omega
  go_wp2_with fail
  go_ret
  exact⟨.inr ⟨rfl,HALL.out⟩,f1⟩
set_option maxRecDepth 100000 in
set_option maxHeartbeats 2000000 in
theorem has_allRule(A:Option Addr)(n c:Nat)(pr:Nat→Bool)(w:World)(bx:Nat)(hn:n≤1000000)
  (hel:∀w',Below w.heap.size w w'→∀j,j<n→∃(b off:Nat)(A1:Option Addr)(n1 c1:Nat)(A2:Option Addr)(n2 c2:Nat)(A3:Option Addr)(n3 c3:Nat),A=some ⟨b,off,none⟩∧w'.cell? ⟨b,off+j*3,none⟩=some (.slice A1 n1 c1)∧w'.cell? ⟨b,off+j*3+1,none⟩=some (.slice A2 n2 c2)∧w'.cell? ⟨b,off+j*3+2,none⟩=some (.slice A3 n3 c3)∧Calls Tryz.prog 64 #[.agg #[.slice A1 n1 c1,.slice A2 n2 c2,.slice A3 n3 c3],.pointer (some ⟨bx,0,none⟩)] w' fun e w''=>e=.returned (.bool (pr j))∧Below w'.heap.size w' w'')
  {r:Bool} (hr:r=true↔∃k,k<n∧pr k=true) :
  Calls Tryz.prog 63 #[.slice A n c,.func (.func 64) #[] #[.pointer (some ⟨bx,0,none⟩)]] w fun e w'=>e=.returned (.bool r)∧Below w.heap.size w w':=by
 have hix:=ix_allRule A n c pr w bx hn hel
 have HR:=Lib.hid hr;clear hr hel
 go_enter Tryz.func63,Tryz.ntmps63
 go_wp2_with fail
 refine hix.mono ?_
 rintro e w1 ⟨⟨k,hk,hp,rfl⟩|⟨rfl,hp⟩,f1⟩
 ·obtain rfl:r=true:=HR.out.2 ⟨k,hk,hp⟩
  have d1:decide ((0:Int)≤(k:Int))=true:=by simp
  go_wp2_with fail
  go_ret
  exact⟨rfl,f1⟩
 obtain rfl:r=false:=by
  rw[←Bool.not_eq_true,HR.out]
  rintro ⟨k,hk,h⟩
  rw[hp k hk] at h
  cases h
 go_wp2_with fail
 go_ret
 exact⟨rfl,f1⟩
set_option maxRecDepth 100000 in
set_option maxHeartbeats 2000000 in
theorem all1_Rule(A1:Option Addr)(n1 c1:Nat)(A2:Option Addr)(n2 c2:Nat)(A3:Option Addr)(n3 c3:Nat)(bx:Nat)(p:Bool)(w:World)(hb:w.cell? ⟨bx,0,none⟩=some (.func (.func 36) #[] #[]))
  (hc:∀w',Below w.heap.size w w'→Calls Tryz.prog 36 #[.agg #[.slice A1 n1 c1,.slice A2 n2 c2,.slice A3 n3 c3]] w' fun e w''=>e=.returned (.bool p)∧Below w'.heap.size w' w'') :
  Calls Tryz.prog 64 #[.agg #[.slice A1 n1 c1,.slice A2 n2 c2,.slice A3 n3 c3],.pointer (some ⟨bx,0,none⟩)] w fun e w'=>e=.returned (.bool (!p))∧Below w.heap.size w w':=by
 have hlt:=World.block_lt_of_cell? w _ hb
 have HC:=Lib.hid hc;clear hc
 go_enter Tryz.func64,Tryz.ntmps64
 go_wp2_with fail
 refine (HC.out _ ?_).mono ?_
 ·first|exact (Below.refl _ _).alloc (Nat.le_refl _) _|exact Below.refl _ _
 rintro e w2 ⟨rfl,f2⟩
 have f3:=((Below.refl _ w).alloc (Nat.le_refl _) _).trans (f2.mono (by simp))
 go_wp2_with fail
 go_ret
 exact⟨rfl,f3⟩
set_option maxRecDepth 100000 in
set_option maxHeartbeats 2000000 in
theorem all_Rule(A:Option Addr)(n c:Nat)(pr:Nat→Bool)(w:World)
  (hel:∀w',Below w.heap.size w w'→∀j,j<n→∃(b off:Nat)(A1:Option Addr)(n1 c1:Nat)(A2:Option Addr)(n2 c2:Nat)(A3:Option Addr)(n3 c3:Nat),A=some ⟨b,off,none⟩∧w'.cell? ⟨b,off+j*3,none⟩=some (.slice A1 n1 c1)∧w'.cell? ⟨b,off+j*3+1,none⟩=some (.slice A2 n2 c2)∧w'.cell? ⟨b,off+j*3+2,none⟩=some (.slice A3 n3 c3)∧∀w'',Below w'.heap.size w' w''→Calls Tryz.prog 36 #[.agg #[.slice A1 n1 c1,.slice A2 n2 c2,.slice A3 n3 c3]] w'' fun e w3=>e=.returned (.bool (pr j))∧Below w''.heap.size w'' w3)
  {r:Bool} (hr:r=true↔n≤6∧∀k,k<n→pr k=true) :
  Calls Tryz.prog 35 #[.int .i64 6,.slice A n c,.func (.func 36) #[] #[]] w fun e w'=>e=.returned (.bool r)∧Below w.heap.size w w':=by
 have HR:=Lib.hid hr;have HEL:=Lib.hid hel;clear hr hel
 by_cases hm:n≤6
 ·have d1:decide ((n:Int)≤6)=true:=by simp;omega
  obtain⟨wb,hwb⟩:∃wb,w.alloc (.cells #[.func (.func 36) #[] #[]] 77)=wb:=⟨_,rfl⟩
  have f0:Below w.heap.size w wb:=by rw[←hwb];exact (Below.refl _ _).alloc (Nat.le_refl _) _
  have hbx:wb.cell? ⟨w.heap.size,0,none⟩=some (.func (.func 36) #[] #[]):=by rw[←hwb];exact (Blk.newAt rfl _ #[.func (.func 36) #[] #[]]).cell 0
  have hhas:=fun r hr=>has_allRule A n c (fun j=> !pr j) wb w.heap.size (by omega) (fun w' h' j hj=>by
   obtain⟨b,off,A1,n1,c1,A2,n2,c2,A3,n3,c3,h1,q0,q1,q2,hcc⟩:=HEL.out w' (f0.trans (h'.mono f0.size)) j hj
   exact⟨b,off,A1,n1,c1,A2,n2,c2,A3,n3,c3,h1,q0,q1,q2,all1_Rule A1 n1 c1 A2 n2 c2 A3 n3 c3 w.heap.size (pr j) w' ((h'.cell (World.block_lt_of_cell? wb _ hbx)).trans hbx) hcc⟩) (r:=r) hr
  have hh:=hhas (!r) (by
   constructor
   ·intro h
    have h2:¬r=true:=by simpa using h
    rw[HR.out] at h2
    rcases Classical.em (∃k,k<n∧(!pr k)=true) with h3|h3
    ·exact h3
    refine absurd ⟨hm,fun k hk=>?_⟩ h2
    rcases h4:pr k with _|_
    ·exact absurd ⟨k,hk,by rw[h4];rfl⟩ h3
    rfl
   rintro ⟨k,hk,h⟩
   rcases h5:r with _|_
   ·rfl
   have:=(HR.out.1 h5).2 k hk
   rw[this] at h
   cases h)
  clear hhas
  have HH:=Lib.hid hh;clear hh
  go_enter Tryz.func35,Tryz.ntmps35
  go_wp2_with fail
  refine HH.out.mono ?_
  rintro e w1 ⟨rfl,f1⟩
  have f3:=f0.trans (f1.mono f0.size)
  rcases r with _|_
  all_goals
   go_wp2_with fail
   go_ret
   exact⟨rfl,f3⟩
 have d1:decide ((n:Int)≤6)=false:=by simp;omega
 obtain rfl:r=false:=by
  rw[←Bool.not_eq_true,HR.out]
  exact fun h=>hm h.1
 go_enter Tryz.func35,Tryz.ntmps35
 go_wp2_with fail
 go_ret
 exact⟨rfl,(Below.refl _ _).alloc (Nat.le_refl _) _⟩
set_option maxRecDepth 100000 in
set_option maxHeartbeats 2000000 in
theorem ix_allCidr(A:Option Addr)(n c:Nat)(pr:Nat→Bool)(w:World)(bx:Nat)(hn:n≤1000000)
  (hel:∀w',Below w.heap.size w w'→∀j,j<n→∃(b off:Nat)(x1:Int)(x2:Int),A=some ⟨b,off,none⟩∧w'.cell? ⟨b,off+j*2,none⟩=some (.int .u32 x1)∧w'.cell? ⟨b,off+j*2+1,none⟩=some (.int .i64 x2)∧Calls Tryz.prog 147 #[.agg #[.int .u32 x1,.int .i64 x2],.pointer (some ⟨bx,0,none⟩)] w' fun e w''=>e=.returned (.bool (pr j))∧Below w'.heap.size w' w'') :
  Calls Tryz.prog 182 #[.slice A n c,.func (.func 147) #[] #[.pointer (some ⟨bx,0,none⟩)]] w fun e w'=>((∃k:Nat,k<n∧pr k=true∧e=.returned (.int .i64 k))∨(e=.returned (.int .i64 (-1))∧∀k,k<n→pr k=false))∧Below w.heap.size w w':=by
 have HEL:=Lib.hid hel;clear hel
 go_enter Tryz.func182,Tryz.ntmps182
 go_wp2_with fail
 go_loopw [8,5] (fun v8 v5 wr=>∃k:Nat,v8=.int .i64 k∧k≤n∧(∀j,j<k→pr j=false)∧Below w.heap.size w wr) (fun v8 _ _=>n-(intOf v8).toNat)
 case atStart=>exact⟨0,rfl,Nat.zero_le _,fun j hj=>absurd hj (by omega),Below.refl _ _⟩
 case round =>
  obtain⟨k,rfl,hk,hall,f1⟩:=hrel
  have HALL:=Lib.hid hall;clear hall
  by_cases hlt:k<n
  ·have d1:decide ((k:Int)<(n:Int))=true:=by simp;omega
   have b1:(0:Int)≤(k:Int):=by omega
   have b2:(k:Int)<(n:Int):=by omega
   obtain⟨b,off,x1,x2,rfl,q0,q1,hcall⟩:=HEL.out wr f1 k hlt
   obtain⟨p,hp⟩:∃p,pr k=p:=⟨_,rfl⟩
   rw[hp] at hcall
   have HP:=Lib.hid hp;clear hp
   have HC:=Lib.hid hcall;clear hcall
   go_wp2_with fail
   refine HC.out.mono ?_
   rintro e w2 ⟨rfl,f2⟩
   have f3:=f1.trans (f2.mono f1.size)
   cases p
   ·go_wp2_with fail
    go_roundw
    case rel =>
     refine⟨k+1,by go_num,by omega,fun j hj=>?_,f3⟩
     by_cases e:j=k
     ·subst e;exact HP.out
     exact HALL.out j (by omega)
    case measure=>simp[intOf];omega
   go_wp2_with fail
   go_ret
   exact⟨.inl ⟨k,hlt,HP.out,rfl⟩,f3⟩
  have d1:decide ((k:Int)<(n:Int))=false:=by simp;omega
  obtain rfl:k=n:=by omega
  go_wp2_with fail
  go_ret
  exact⟨.inr ⟨rfl,HALL.out⟩,f1⟩
set_option maxRecDepth 100000 in
set_option maxHeartbeats 2000000 in
theorem has_allCidr(A:Option Addr)(n c:Nat)(pr:Nat→Bool)(w:World)(bx:Nat)(hn:n≤1000000)
  (hel:∀w',Below w.heap.size w w'→∀j,j<n→∃(b off:Nat)(x1:Int)(x2:Int),A=some ⟨b,off,none⟩∧w'.cell? ⟨b,off+j*2,none⟩=some (.int .u32 x1)∧w'.cell? ⟨b,off+j*2+1,none⟩=some (.int .i64 x2)∧Calls Tryz.prog 147 #[.agg #[.int .u32 x1,.int .i64 x2],.pointer (some ⟨bx,0,none⟩)] w' fun e w''=>e=.returned (.bool (pr j))∧Below w'.heap.size w' w'')
  {r:Bool} (hr:r=true↔∃k,k<n∧pr k=true) :
  Calls Tryz.prog 146 #[.slice A n c,.func (.func 147) #[] #[.pointer (some ⟨bx,0,none⟩)]] w fun e w'=>e=.returned (.bool r)∧Below w.heap.size w w':=by
 have hix:=ix_allCidr A n c pr w bx hn hel
 have HR:=Lib.hid hr;clear hr hel
 go_enter Tryz.func146,Tryz.ntmps146
 go_wp2_with fail
 refine hix.mono ?_
 rintro e w1 ⟨⟨k,hk,hp,rfl⟩|⟨rfl,hp⟩,f1⟩
 ·obtain rfl:r=true:=HR.out.2 ⟨k,hk,hp⟩
  have d1:decide ((0:Int)≤(k:Int))=true:=by simp
  go_wp2_with fail
  go_ret
  exact⟨rfl,f1⟩
 obtain rfl:r=false:=by
  rw[←Bool.not_eq_true,HR.out]
  rintro ⟨k,hk,h⟩
  rw[hp k hk] at h
  cases h
 go_wp2_with fail
 go_ret
 exact⟨rfl,f1⟩
set_option maxRecDepth 100000 in
set_option maxHeartbeats 2000000 in
theorem all1_Cidr(x1:Int)(x2:Int)(bx:Nat)(p:Bool)(w:World)(hb:w.cell? ⟨bx,0,none⟩=some (.func (.func 74) #[] #[]))
  (hc:∀w',Below w.heap.size w w'→Calls Tryz.prog 74 #[.agg #[.int .u32 x1,.int .i64 x2]] w' fun e w''=>e=.returned (.bool p)∧Below w'.heap.size w' w'') :
  Calls Tryz.prog 147 #[.agg #[.int .u32 x1,.int .i64 x2],.pointer (some ⟨bx,0,none⟩)] w fun e w'=>e=.returned (.bool (!p))∧Below w.heap.size w w':=by
 have hlt:=World.block_lt_of_cell? w _ hb
 have HC:=Lib.hid hc;clear hc
 go_enter Tryz.func147,Tryz.ntmps147
 go_wp2_with fail
 refine (HC.out _ ?_).mono ?_
 ·first|exact (Below.refl _ _).alloc (Nat.le_refl _) _|exact Below.refl _ _
 rintro e w2 ⟨rfl,f2⟩
 have f3:=((Below.refl _ w).alloc (Nat.le_refl _) _).trans (f2.mono (by simp))
 go_wp2_with fail
 go_ret
 exact⟨rfl,f3⟩
set_option maxRecDepth 100000 in
set_option maxHeartbeats 2000000 in
theorem all_Cidr(A:Option Addr)(n c:Nat)(pr:Nat→Bool)(w:World)
  (hel:∀w',Below w.heap.size w w'→∀j,j<n→∃(b off:Nat)(x1:Int)(x2:Int),A=some ⟨b,off,none⟩∧w'.cell? ⟨b,off+j*2,none⟩=some (.int .u32 x1)∧w'.cell? ⟨b,off+j*2+1,none⟩=some (.int .i64 x2)∧∀w'',Below w'.heap.size w' w''→Calls Tryz.prog 74 #[.agg #[.int .u32 x1,.int .i64 x2]] w'' fun e w3=>e=.returned (.bool (pr j))∧Below w''.heap.size w'' w3)
  {r:Bool} (hr:r=true↔n≤6∧∀k,k<n→pr k=true) :
  Calls Tryz.prog 105 #[.int .i64 6,.slice A n c,.func (.func 74) #[] #[]] w fun e w'=>e=.returned (.bool r)∧Below w.heap.size w w':=by
 have HR:=Lib.hid hr;have HEL:=Lib.hid hel;clear hr hel
 by_cases hm:n≤6
 ·have d1:decide ((n:Int)≤6)=true:=by simp;omega
  obtain⟨wb,hwb⟩:∃wb,w.alloc (.cells #[.func (.func 74) #[] #[]] 120)=wb:=⟨_,rfl⟩
  have f0:Below w.heap.size w wb:=by rw[←hwb];exact (Below.refl _ _).alloc (Nat.le_refl _) _
  have hbx:wb.cell? ⟨w.heap.size,0,none⟩=some (.func (.func 74) #[] #[]):=by rw[←hwb];exact (Blk.newAt rfl _ #[.func (.func 74) #[] #[]]).cell 0
  have hhas:=fun r hr=>has_allCidr A n c (fun j=> !pr j) wb w.heap.size (by omega) (fun w' h' j hj=>by
   obtain⟨b,off,x1,x2,h1,q0,q1,hcc⟩:=HEL.out w' (f0.trans (h'.mono f0.size)) j hj
   exact⟨b,off,x1,x2,h1,q0,q1,all1_Cidr x1 x2 w.heap.size (pr j) w' ((h'.cell (World.block_lt_of_cell? wb _ hbx)).trans hbx) hcc⟩) (r:=r) hr
  have hh:=hhas (!r) (by
   constructor
   ·intro h
    have h2:¬r=true:=by simpa using h
    rw[HR.out] at h2
    rcases Classical.em (∃k,k<n∧(!pr k)=true) with h3|h3
    ·exact h3
    refine absurd ⟨hm,fun k hk=>?_⟩ h2
    rcases h4:pr k with _|_
    ·exact absurd ⟨k,hk,by rw[h4];rfl⟩ h3
    rfl
   rintro ⟨k,hk,h⟩
   rcases h5:r with _|_
   ·rfl
   have:=(HR.out.1 h5).2 k hk
   rw[this] at h
   cases h)
  clear hhas
  have HH:=Lib.hid hh;clear hh
  go_enter Tryz.func105,Tryz.ntmps105
  go_wp2_with fail
  refine HH.out.mono ?_
  rintro e w1 ⟨rfl,f1⟩
  have f3:=f0.trans (f1.mono f0.size)
  rcases r with _|_
  all_goals
   go_wp2_with fail
   go_ret
   exact⟨rfl,f3⟩
 have d1:decide ((n:Int)≤6)=false:=by simp;omega
 obtain rfl:r=false:=by
  rw[←Bool.not_eq_true,HR.out]
  exact fun h=>hm h.1
 go_enter Tryz.func105,Tryz.ntmps105
 go_wp2_with fail
 go_ret
 exact⟨rfl,(Below.refl _ _).alloc (Nat.le_refl _) _⟩
set_option maxRecDepth 100000 in
set_option maxHeartbeats 2000000 in
theorem ix_allint(A:Option Addr)(n c:Nat)(pr:Nat→Bool)(w:World)(bx:Nat)(hn:n≤1000000)
  (hel:∀w',Below w.heap.size w w'→∀j,j<n→∃(b off:Nat)(x1:Int),A=some ⟨b,off,none⟩∧w'.cell? ⟨b,off+j,none⟩=some (.int .i64 x1)∧Calls Tryz.prog 152 #[.int .i64 x1,.pointer (some ⟨bx,0,none⟩)] w' fun e w''=>e=.returned (.bool (pr j))∧Below w'.heap.size w' w'') :
  Calls Tryz.prog 193 #[.slice A n c,.func (.func 152) #[] #[.pointer (some ⟨bx,0,none⟩)]] w fun e w'=>((∃k:Nat,k<n∧pr k=true∧e=.returned (.int .i64 k))∨(e=.returned (.int .i64 (-1))∧∀k,k<n→pr k=false))∧Below w.heap.size w w':=by
 have HEL:=Lib.hid hel;clear hel
 go_enter Tryz.func193,Tryz.ntmps193
 go_wp2_with fail
 go_loopw [8,5] (fun v8 v5 wr=>∃k:Nat,v8=.int .i64 k∧k≤n∧(∀j,j<k→pr j=false)∧Below w.heap.size w wr) (fun v8 _ _=>n-(intOf v8).toNat)
 case atStart=>exact⟨0,rfl,Nat.zero_le _,fun j hj=>absurd hj (by omega),Below.refl _ _⟩
 case round =>
  obtain⟨k,rfl,hk,hall,f1⟩:=hrel
  have HALL:=Lib.hid hall;clear hall
  by_cases hlt:k<n
  ·have d1:decide ((k:Int)<(n:Int))=true:=by simp;omega
   have b1:(0:Int)≤(k:Int):=by omega
   have b2:(k:Int)<(n:Int):=by omega
   obtain⟨b,off,x1,rfl,q0,hcall⟩:=HEL.out wr f1 k hlt
   obtain⟨p,hp⟩:∃p,pr k=p:=⟨_,rfl⟩
   rw[hp] at hcall
   have HP:=Lib.hid hp;clear hp
   have HC:=Lib.hid hcall;clear hcall
   go_wp2_with fail
   refine HC.out.mono ?_
   rintro e w2 ⟨rfl,f2⟩
   have f3:=f1.trans (f2.mono f1.size)
   cases p
   ·go_wp2_with fail
    go_roundw
    case rel =>
     refine⟨k+1,by go_num,by omega,fun j hj=>?_,f3⟩
     by_cases e:j=k
     ·subst e;exact HP.out
     exact HALL.out j (by omega)
    case measure=>simp[intOf];omega
   go_wp2_with fail
   go_ret
   exact⟨.inl ⟨k,hlt,HP.out,rfl⟩,f3⟩
  have d1:decide ((k:Int)<(n:Int))=false:=by simp;omega
  obtain rfl:k=n:=by omega
  go_wp2_with fail
  go_ret
  exact⟨.inr ⟨rfl,HALL.out⟩,f1⟩
set_option maxRecDepth 100000 in
set_option maxHeartbeats 2000000 in
theorem has_allint(A:Option Addr)(n c:Nat)(pr:Nat→Bool)(w:World)(bx:Nat)(hn:n≤1000000)
  (hel:∀w',Below w.heap.size w w'→∀j,j<n→∃(b off:Nat)(x1:Int),A=some ⟨b,off,none⟩∧w'.cell? ⟨b,off+j,none⟩=some (.int .i64 x1)∧Calls Tryz.prog 152 #[.int .i64 x1,.pointer (some ⟨bx,0,none⟩)] w' fun e w''=>e=.returned (.bool (pr j))∧Below w'.heap.size w' w'')
  {r:Bool} (hr:r=true↔∃k,k<n∧pr k=true) :
  Calls Tryz.prog 151 #[.slice A n c,.func (.func 152) #[] #[.pointer (some ⟨bx,0,none⟩)]] w fun e w'=>e=.returned (.bool r)∧Below w.heap.size w w':=by
 have hix:=ix_allint A n c pr w bx hn hel
 have HR:=Lib.hid hr;clear hr hel
 go_enter Tryz.func151,Tryz.ntmps151
 go_wp2_with fail
 refine hix.mono ?_
 rintro e w1 ⟨⟨k,hk,hp,rfl⟩|⟨rfl,hp⟩,f1⟩
 ·obtain rfl:r=true:=HR.out.2 ⟨k,hk,hp⟩
  have d1:decide ((0:Int)≤(k:Int))=true:=by simp
  go_wp2_with fail
  go_ret
  exact⟨rfl,f1⟩
 obtain rfl:r=false:=by
  rw[←Bool.not_eq_true,HR.out]
  rintro ⟨k,hk,h⟩
  rw[hp k hk] at h
  cases h
 go_wp2_with fail
 go_ret
 exact⟨rfl,f1⟩
set_option maxRecDepth 100000 in
set_option maxHeartbeats 2000000 in
theorem all1_int(x1:Int)(bx:Nat)(p:Bool)(w:World)(hb:w.cell? ⟨bx,0,none⟩=some (.func (.func 111) #[] #[]))
  (hc:∀w',Below w.heap.size w w'→Calls Tryz.prog 111 #[.int .i64 x1] w' fun e w''=>e=.returned (.bool p)∧Below w'.heap.size w' w'') :
  Calls Tryz.prog 152 #[.int .i64 x1,.pointer (some ⟨bx,0,none⟩)] w fun e w'=>e=.returned (.bool (!p))∧Below w.heap.size w w':=by
 have hlt:=World.block_lt_of_cell? w _ hb
 have HC:=Lib.hid hc;clear hc
 go_enter Tryz.func152,Tryz.ntmps152
 go_wp2_with fail
 refine (HC.out _ ?_).mono ?_
 ·first|exact (Below.refl _ _).alloc (Nat.le_refl _) _|exact Below.refl _ _
 rintro e w2 ⟨rfl,f2⟩
 have f3:=f2
 go_wp2_with fail
 go_ret
 exact⟨rfl,f3⟩
set_option maxRecDepth 100000 in
set_option maxHeartbeats 2000000 in
theorem all_int(A:Option Addr)(n c:Nat)(pr:Nat→Bool)(w:World)
  (hel:∀w',Below w.heap.size w w'→∀j,j<n→∃(b off:Nat)(x1:Int),A=some ⟨b,off,none⟩∧w'.cell? ⟨b,off+j,none⟩=some (.int .i64 x1)∧∀w'',Below w'.heap.size w' w''→Calls Tryz.prog 111 #[.int .i64 x1] w'' fun e w3=>e=.returned (.bool (pr j))∧Below w''.heap.size w'' w3)
  {r:Bool} (hr:r=true↔n≤6∧∀k,k<n→pr k=true) :
  Calls Tryz.prog 110 #[.int .i64 6,.slice A n c,.func (.func 111) #[] #[]] w fun e w'=>e=.returned (.bool r)∧Below w.heap.size w w':=by
 have HR:=Lib.hid hr;have HEL:=Lib.hid hel;clear hr hel
 by_cases hm:n≤6
 ·have d1:decide ((n:Int)≤6)=true:=by simp;omega
  obtain⟨wb,hwb⟩:∃wb,w.alloc (.cells #[.func (.func 111) #[] #[]] 148)=wb:=⟨_,rfl⟩
  have f0:Below w.heap.size w wb:=by rw[←hwb];exact (Below.refl _ _).alloc (Nat.le_refl _) _
  have hbx:wb.cell? ⟨w.heap.size,0,none⟩=some (.func (.func 111) #[] #[]):=by rw[←hwb];exact (Blk.newAt rfl _ #[.func (.func 111) #[] #[]]).cell 0
  have hhas:=fun r hr=>has_allint A n c (fun j=> !pr j) wb w.heap.size (by omega) (fun w' h' j hj=>by
   obtain⟨b,off,x1,h1,q0,hcc⟩:=HEL.out w' (f0.trans (h'.mono f0.size)) j hj
   exact⟨b,off,x1,h1,q0,all1_int x1 w.heap.size (pr j) w' ((h'.cell (World.block_lt_of_cell? wb _ hbx)).trans hbx) hcc⟩) (r:=r) hr
  have hh:=hhas (!r) (by
   constructor
   ·intro h
    have h2:¬r=true:=by simpa using h
    rw[HR.out] at h2
    rcases Classical.em (∃k,k<n∧(!pr k)=true) with h3|h3
    ·exact h3
    refine absurd ⟨hm,fun k hk=>?_⟩ h2
    rcases h4:pr k with _|_
    ·exact absurd ⟨k,hk,by rw[h4];rfl⟩ h3
    rfl
   rintro ⟨k,hk,h⟩
   rcases h5:r with _|_
   ·rfl
   have:=(HR.out.1 h5).2 k hk
   rw[this] at h
   cases h)
  clear hhas
  have HH:=Lib.hid hh;clear hh
  go_enter Tryz.func110,Tryz.ntmps110
  go_wp2_with fail
  refine HH.out.mono ?_
  rintro e w1 ⟨rfl,f1⟩
  have f3:=f0.trans (f1.mono f0.size)
  rcases r with _|_
  all_goals
   go_wp2_with fail
   go_ret
   exact⟨rfl,f3⟩
 have d1:decide ((n:Int)≤6)=false:=by simp;omega
 obtain rfl:r=false:=by
  rw[←Bool.not_eq_true,HR.out]
  exact fun h=>hm h.1
 go_enter Tryz.func110,Tryz.ntmps110
 go_wp2_with fail
 go_ret
 exact⟨rfl,(Below.refl _ _).alloc (Nat.le_refl _) _⟩
set_option maxRecDepth 100000 in
set_option maxHeartbeats 2000000 in
theorem ix_Term(A:Option Addr)(n c:Nat)(pr:Nat→Bool)(w:World)(hn:n≤1000000)
  (hel:∀w',Below w.heap.size w w'→∀j,j<n→∃(b off:Nat)(x1:Int)(s2:List UInt8),A=some ⟨b,off,none⟩∧w'.cell? ⟨b,off+j*2,none⟩=some (.int .i64 x1)∧w'.cell? ⟨b,off+j*2+1,none⟩=some (.string (strB s2))∧Calls Tryz.prog 181 #[.agg #[.int .i64 x1,.string (strB s2)]] w' fun e w''=>e=.returned (.bool (pr j))∧Below w'.heap.size w' w'') :
  Calls Tryz.prog 211 #[.slice A n c,.func (.func 181) #[] #[]] w fun e w'=>((∃k:Nat,k<n∧pr k=true∧e=.returned (.int .i64 k))∨(e=.returned (.int .i64 (-1))∧∀k,k<n→pr k=false))∧Below w.heap.size w w':=by
 have HEL:=Lib.hid hel;clear hel
 go_enter Tryz.func211,Tryz.ntmps211
 go_wp2_with fail
 go_loopw [8,5] (fun v8 v5 wr=>∃k:Nat,v8=.int .i64 k∧k≤n∧(∀j,j<k→pr j=false)∧Below w.heap.size w wr) (fun v8 _ _=>n-(intOf v8).toNat)
 case atStart=>exact⟨0,rfl,Nat.zero_le _,fun j hj=>absurd hj (by omega),Below.refl _ _⟩
 case round =>
  obtain⟨k,rfl,hk,hall,f1⟩:=hrel
  have HALL:=Lib.hid hall;clear hall
  by_cases hlt:k<n
  ·have d1:decide ((k:Int)<(n:Int))=true:=by simp;omega
   have b1:(0:Int)≤(k:Int):=by omega
   have b2:(k:Int)<(n:Int):=by omega
   obtain⟨b,off,x1,s2,rfl,q0,q1,hcall⟩:=HEL.out wr f1 k hlt
   obtain⟨p,hp⟩:∃p,pr k=p:=⟨_,rfl⟩
   rw[hp] at hcall
   have HP:=Lib.hid hp;clear hp
   have HC:=Lib.hid hcall;clear hcall
   go_wp2_with fail
   refine HC.out.mono ?_
   rintro e w2 ⟨rfl,f2⟩
   have f3:=f1.trans (f2.mono f1.size)
   cases p
   ·go_wp2_with fail
    go_roundw
    case rel =>
     refine⟨k+1,by go_num,by omega,fun j hj=>?_,f3⟩
     by_cases e:j=k
     ·subst e;exact HP.out
     exact HALL.out j (by omega)
    case measure=>simp[intOf];omega
   go_wp2_with fail
   go_ret
   exact⟨.inl ⟨k,hlt,HP.out,rfl⟩,f3⟩
  have d1:decide ((k:Int)<(n:Int))=false:=by simp;omega
  obtain rfl:k=n:=by omega
  go_wp2_with fail
  go_ret
  exact⟨.inr ⟨rfl,HALL.out⟩,f1⟩
set_option maxRecDepth 100000 in
set_option maxHeartbeats 2000000 in
theorem has_Term(A:Option Addr)(n c:Nat)(pr:Nat→Bool)(w:World)(hn:n≤1000000)
  (hel:∀w',Below w.heap.size w w'→∀j,j<n→∃(b off:Nat)(x1:Int)(s2:List UInt8),A=some ⟨b,off,none⟩∧w'.cell? ⟨b,off+j*2,none⟩=some (.int .i64 x1)∧w'.cell? ⟨b,off+j*2+1,none⟩=some (.string (strB s2))∧Calls Tryz.prog 181 #[.agg #[.int .i64 x1,.string (strB s2)]] w' fun e w''=>e=.returned (.bool (pr j))∧Below w'.heap.size w' w'')
  {r:Bool} (hr:r=true↔∃k,k<n∧pr k=true) :
  Calls Tryz.prog 180 #[.slice A n c,.func (.func 181) #[] #[]] w fun e w'=>e=.returned (.bool r)∧Below w.heap.size w w':=by
 have hix:=ix_Term A n c pr w hn hel
 have HR:=Lib.hid hr;clear hr hel
 go_enter Tryz.func180,Tryz.ntmps180
 go_wp2_with fail
 refine hix.mono ?_
 rintro e w1 ⟨⟨k,hk,hp,rfl⟩|⟨rfl,hp⟩,f1⟩
 ·obtain rfl:r=true:=HR.out.2 ⟨k,hk,hp⟩
  have d1:decide ((0:Int)≤(k:Int))=true:=by simp
  go_wp2_with fail
  go_ret
  exact⟨rfl,f1⟩
 obtain rfl:r=false:=by
  rw[←Bool.not_eq_true,HR.out]
  rintro ⟨k,hk,h⟩
  rw[hp k hk] at h
  cases h
 go_wp2_with fail
 go_ret
 exact⟨rfl,f1⟩
set_option maxRecDepth 100000 in
set_option maxHeartbeats 2000000 in
theorem ix_Terms(A:Option Addr)(n c:Nat)(pr:Nat→Bool)(w:World)(hn:n≤1000000)
  (hel:∀w',Below w.heap.size w w'→∀j,j<n→∃(b off:Nat)(A1:Option Addr)(n1 c1:Nat),A=some ⟨b,off,none⟩∧w'.cell? ⟨b,off+j,none⟩=some (.slice A1 n1 c1)∧Calls Tryz.prog 144 #[.slice A1 n1 c1] w' fun e w''=>e=.returned (.bool (pr j))∧Below w'.heap.size w' w'') :
  Calls Tryz.prog 179 #[.slice A n c,.func (.func 144) #[] #[]] w fun e w'=>((∃k:Nat,k<n∧pr k=true∧e=.returned (.int .i64 k))∨(e=.returned (.int .i64 (-1))∧∀k,k<n→pr k=false))∧Below w.heap.size w w':=by
 have HEL:=Lib.hid hel;clear hel
 go_enter Tryz.func179,Tryz.ntmps179
 go_wp2_with fail
 go_loopw [8,5] (fun v8 v5 wr=>∃k:Nat,v8=.int .i64 k∧k≤n∧(∀j,j<k→pr j=false)∧Below w.heap.size w wr) (fun v8 _ _=>n-(intOf v8).toNat)
 case atStart=>exact⟨0,rfl,Nat.zero_le _,fun j hj=>absurd hj (by omega),Below.refl _ _⟩
 case round =>
  obtain⟨k,rfl,hk,hall,f1⟩:=hrel
  have HALL:=Lib.hid hall;clear hall
  by_cases hlt:k<n
  ·have d1:decide ((k:Int)<(n:Int))=true:=by simp;omega
   have b1:(0:Int)≤(k:Int):=by omega
   have b2:(k:Int)<(n:Int):=by omega
   obtain⟨b,off,A1,n1,c1,rfl,q0,hcall⟩:=HEL.out wr f1 k hlt
   obtain⟨p,hp⟩:∃p,pr k=p:=⟨_,rfl⟩
   rw[hp] at hcall
   have HP:=Lib.hid hp;clear hp
   have HC:=Lib.hid hcall;clear hcall
   go_wp2_with fail
   refine HC.out.mono ?_
   rintro e w2 ⟨rfl,f2⟩
   have f3:=f1.trans (f2.mono f1.size)
   cases p
   ·go_wp2_with fail
    go_roundw
    case rel =>
     refine⟨k+1,by go_num,by omega,fun j hj=>?_,f3⟩
     by_cases e:j=k
     ·subst e;exact HP.out
     exact HALL.out j (by omega)
    case measure=>simp[intOf];omega
   go_wp2_with fail
   go_ret
   exact⟨.inl ⟨k,hlt,HP.out,rfl⟩,f3⟩
  have d1:decide ((k:Int)<(n:Int))=false:=by simp;omega
  obtain rfl:k=n:=by omega
  go_wp2_with fail
  go_ret
  exact⟨.inr ⟨rfl,HALL.out⟩,f1⟩
set_option maxRecDepth 100000 in
set_option maxHeartbeats 2000000 in
theorem has_Terms(A:Option Addr)(n c:Nat)(pr:Nat→Bool)(w:World)(hn:n≤1000000)
  (hel:∀w',Below w.heap.size w w'→∀j,j<n→∃(b off:Nat)(A1:Option Addr)(n1 c1:Nat),A=some ⟨b,off,none⟩∧w'.cell? ⟨b,off+j,none⟩=some (.slice A1 n1 c1)∧Calls Tryz.prog 144 #[.slice A1 n1 c1] w' fun e w''=>e=.returned (.bool (pr j))∧Below w'.heap.size w' w'')
  {r:Bool} (hr:r=true↔∃k,k<n∧pr k=true) :
  Calls Tryz.prog 143 #[.slice A n c,.func (.func 144) #[] #[]] w fun e w'=>e=.returned (.bool r)∧Below w.heap.size w w':=by
 have hix:=ix_Terms A n c pr w hn hel
 have HR:=Lib.hid hr;clear hr hel
 go_enter Tryz.func143,Tryz.ntmps143
 go_wp2_with fail
 refine hix.mono ?_
 rintro e w1 ⟨⟨k,hk,hp,rfl⟩|⟨rfl,hp⟩,f1⟩
 ·obtain rfl:r=true:=HR.out.2 ⟨k,hk,hp⟩
  have d1:decide ((0:Int)≤(k:Int))=true:=by simp
  go_wp2_with fail
  go_ret
  exact⟨rfl,f1⟩
 obtain rfl:r=false:=by
  rw[←Bool.not_eq_true,HR.out]
  rintro ⟨k,hk,h⟩
  rw[hp k hk] at h
  cases h
 go_wp2_with fail
 go_ret
 exact⟨rfl,f1⟩
end Go.Proofs.YtpcdmbajfmnoiaaGreatDoor
