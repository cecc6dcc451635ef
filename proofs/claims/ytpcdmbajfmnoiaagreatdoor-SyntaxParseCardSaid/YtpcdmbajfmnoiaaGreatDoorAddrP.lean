/- addr.Print. Condition: the library's variables hold what they should. -/
import Derived.Test.YtpcdmbajfmnoiaaGreatDoorAddrW
import Derived.IntWalk
namespace Go.Proofs.YtpcdmbajfmnoiaaGreatDoor
set_option linter.unusedVariables false
set_option linter.unusedSimpArgs false
open Go.RowKit Go.Sort
def sC(l:List UInt8):List Value:=[.string (strB l)]
theorem sC_len(l:List UInt8):(sC l).length=1:=rfl
theorem sC_one(l:List UInt8):∀v∈sC l,v.oneCell'=true:=by
 intro v hv
 simp only[sC,List.mem_cons,List.mem_nil_iff,or_false] at hv
 rw[hv];rfl
theorem TS:RowTy Tryz.prog 69 9 1 16 (.string ByteArray.empty):=⟨Tryz.underlying69,by kernel_rfl,rfl,by omega⟩
def oct(a k:Nat):Nat:=a/2^(24-8*k)%256
theorem oct_lt(a k:Nat):oct a k<256:=Nat.mod_lt _ (by omega)
def octs(a:Nat):List (List UInt8):=[Lib.itoa (oct a 0),Lib.itoa (oct a 1),Lib.itoa (oct a 2),Lib.itoa (oct a 3)]
def printA(a:Nat):List UInt8:=Lib.join (octs a) [46]
theorem and_255(x:Nat)(hx:x<4294967296):bits .and .u32 (x:Int) 255=((x%256:Nat):Int):=by
 have:=u32_and_n x 255 hx (by omega)
 rw[show ((255:Nat):Int)=255 from rfl] at this
 rw[this]
 congr 1
 exact Nat.and_two_pow_sub_one_eq_mod x 8
theorem and_oct(a k:Nat)(ha:a<4294967296)(d:Int)(hd:((a/2^(24-8*k):Nat):Int)=d):bits .and .u32 d 255=(oct a k:Int):=by
 rw[←hd]
 exact and_255 _ (Nat.lt_of_le_of_lt (Nat.div_le_self _ _) ha)
theorem one_str(w:World)(l:List UInt8)(B:Nat)(hB:w.heap.size<B):RdR sC 1 (w.alloc (.cells #[.string (strB l)] 9)) B (some ⟨w.heap.size,0,none⟩) 1 [l]:=by
 have k:=Blk.newAt (w:=w) rfl 9 #[.string (strB l)]
 refine⟨rfl,fun _=>⟨w.heap.size,0,rfl,hB,fun j hj i v hv=>?_⟩⟩
 have:j=0:=by simpa using hj
 subst this
 have e:(0+0*1+i)=i:=by omega
 rw[e,k.cell]
 exact hv
theorem dd_small(n:Nat)(h:n<10):(Lib.decDigits n).length=1:=by rw[Lib.decDigits,dif_pos h];rfl
theorem itoa_len(k:Nat)(h:k<256):(Lib.itoa (k:Int)).length≤3:=by
 unfold Lib.itoa
 rw[if_neg (by omega),Int.toNat_natCast,Lib.decDigits]
 split
 ·simp
 rw[List.length_append,Lib.decDigits]
 split
 ·simp
 rw[List.length_append,dd_small _ (by omega)]
 simp
theorem join_len(a:Nat):(printA a).length≤15:=by
 have h0:=itoa_len _ (oct_lt a 0)
 have h1:=itoa_len _ (oct_lt a 1)
 have h2:=itoa_len _ (oct_lt a 2)
 have h3:=itoa_len _ (oct_lt a 3)
 unfold printA octs
 rw[Lib.join_cons]
 simp only[Lib.joinTail,List.map_cons,List.map_nil,List.flatten_cons,List.flatten_nil,List.length_append,List.length_cons,List.length_nil]
 omega
theorem join_any(A:Option Addr)(n c:Nat)(L:List (List UInt8))(w:World)(h:RdR sC 1 w w.heap.size A n L)(hc:n≤c)(hn:0<n)(hn2:n≤1000000)(hj:(Lib.join L [46]).length≤1000000) :
  Calls Tryz.prog 72 #[.slice A n c,.string ⟨#[46]⟩] w fun e w'=>e=.returned (.string (strB (Lib.join L [46])))∧Below w.heap.size w w':=by
 obtain⟨hl,h⟩:=h
 obtain⟨b,off,rfl,hb,hcell⟩:=h hn
 have hm:(L.map strB).map (·.data.toList)=L:=by
  rw[List.map_map]
  conv=>rhs;rw[←List.map_id L]
  refine List.map_congr_left fun x _=>?_
  simp[strB]
 have hk:=strings_Join b off c (L.map strB) ⟨#[46]⟩ w (fun j x hx=>?_) hb (by rw[List.length_map];omega) (by rw[List.length_map];omega) (by rw[hm];exact Nat.le_trans hj (by omega))
 ·rw[List.length_map,hl,hm] at hk
  exact hk
 rw[List.getElem?_map] at hx
 obtain⟨y,hy,rfl⟩:=Option.map_eq_some_iff.1 hx
 obtain⟨hj,rfl⟩:=List.getElem?_eq_some_iff.1 hy
 have:=hcell j hj 0 _ rfl
 rwa [Nat.mul_one,Nat.add_zero] at this
set_option maxRecDepth 100000 in
set_option maxHeartbeats 4000000 in
theorem print_any(a:Nat)(ha:a<4294967296)(w:World)(hW:LdW w) :
  Calls Tryz.prog 75 #[.int .u32 (a:Int)] w fun e w'=>e=.returned (.string (strB (printA a)))∧Below w.heap.size w w':=by
 have hlt:=hW.lt
 go_enter Tryz.func75,Tryz.ntmps75
 go_wp2_with fail
 go_loopw [5,3] (fun v5 v3 wr=>∃(k:Nat)(A:Option Addr)(c:Nat),v5=.int .i64 k∧k≤4∧v3=.slice A k c∧OwnR sC 1 wr w.heap.size 9 (.slice A k c) ((octs a).take k)∧Below w.heap.size w wr) (fun v5 _ _=>4-(intOf v5).toNat)
 case atStart=>exact⟨0,none,0,rfl,by omega,rfl,OwnR.nil,Below.refl _ _⟩
 case round =>
  obtain⟨k,A,c,rfl,hk,rfl,o1,f1⟩:=hrel
  rcases (show k=0∨k=1∨k=2∨k=3∨k=4 by omega) with rfl|rfl|rfl|rfl|rfl
  ·have hb:=and_oct a 0 ha ((a:Int)/16777216) (by simp only[show 24-8*0=24 from rfl];omega)
   have ho:=oct_lt a 0
   have hi:=fun w h=>itoa_any (oct a 0:Int) w h (by omega) (by omega)
   have hts:(octs a).take 0++[Lib.itoa (oct a 0:Int)]=(octs a).take 1:=rfl
   have HTS:=Lib.hid hts;clear hts
   generalize Lib.itoa (oct a 0:Int)=s at *
   have b0:(0:Int)≤(oct a 0:Int):=by omega
   have b1:(oct a 0:Int)≤255:=by omega
   generalize (oct a 0:Int)=q at *
   clear ho
   go_wp2_with fail
   refine (hi wr (hW.below hlt f1)).mono ?_
   rintro e w2 ⟨rfl,f2⟩
   have o2:=o1.below (Nat.le_refl _) f2.below
   have f3:=f1.trans (f2.below.mono f1.size)
   clear o1 f2 hb
   have oz:=one_str w2 s (w2.heap.size+1) (by omega)
   have hbp:Below w.heap.size w2 (w2.alloc (.cells #[.string (strB s)] 9)):=(Below.refl _ _).alloc f3.size _
   go_wp2_with (first|(at_builtin;go_must (refine appendRow TS sC_len sC_one rfl rfl rfl (o2.below (Nat.le_refl _) ((Below.refl _ w2).alloc (Nat.le_refl _) _)) rfl oz (by omega) (by simp only[maxLen];omega) hbp f3.size ?_);intro A5 c5 w5 o5 f5 g5))
   rw[HTS.out] at o5
   have f6:=f3.trans f5
   clear o2 g5 oz hbp f5 f3 f1
   go_roundw
   case rel=>exact⟨1,A5,c5,rfl,by omega,rfl,o5,f6⟩
   case measure=>simp[intOf]
  ·have hb:=and_oct a 1 ha ((a:Int)/65536) (by simp only[show 24-8*1=16 from rfl];omega)
   have ho:=oct_lt a 1
   have hi:=fun w h=>itoa_any (oct a 1:Int) w h (by omega) (by omega)
   have hts:(octs a).take 1++[Lib.itoa (oct a 1:Int)]=(octs a).take 2:=rfl
   have HTS:=Lib.hid hts;clear hts
   generalize Lib.itoa (oct a 1:Int)=s at *
   have b0:(0:Int)≤(oct a 1:Int):=by omega
   have b1:(oct a 1:Int)≤255:=by omega
   generalize (oct a 1:Int)=q at *
   clear ho
   go_wp2_with fail
   refine (hi wr (hW.below hlt f1)).mono ?_
   rintro e w2 ⟨rfl,f2⟩
   have o2:=o1.below (Nat.le_refl _) f2.below
   have f3:=f1.trans (f2.below.mono f1.size)
   clear o1 f2 hb
   have oz:=one_str w2 s (w2.heap.size+1) (by omega)
   have hbp:Below w.heap.size w2 (w2.alloc (.cells #[.string (strB s)] 9)):=(Below.refl _ _).alloc f3.size _
   go_wp2_with (first|(at_builtin;go_must (refine appendRow TS sC_len sC_one rfl rfl rfl (o2.below (Nat.le_refl _) ((Below.refl _ w2).alloc (Nat.le_refl _) _)) rfl oz (by omega) (by simp only[maxLen];omega) hbp f3.size ?_);intro A5 c5 w5 o5 f5 g5))
   rw[HTS.out] at o5
   have f6:=f3.trans f5
   clear o2 g5 oz hbp f5 f3 f1
   go_roundw
   case rel=>exact⟨2,A5,c5,rfl,by omega,rfl,o5,f6⟩
   case measure=>simp[intOf]
  ·have hb:=and_oct a 2 ha ((a:Int)/256) (by simp only[show 24-8*2=8 from rfl];omega)
   have ho:=oct_lt a 2
   have hi:=fun w h=>itoa_any (oct a 2:Int) w h (by omega) (by omega)
   have hts:(octs a).take 2++[Lib.itoa (oct a 2:Int)]=(octs a).take 3:=rfl
   have HTS:=Lib.hid hts;clear hts
   generalize Lib.itoa (oct a 2:Int)=s at *
   have b0:(0:Int)≤(oct a 2:Int):=by omega
   have b1:(oct a 2:Int)≤255:=by omega
   generalize (oct a 2:Int)=q at *
   clear ho
   go_wp2_with fail
   refine (hi wr (hW.below hlt f1)).mono ?_
   rintro e w2 ⟨rfl,f2⟩
   have o2:=o1.below (Nat.le_refl _) f2.below
   have f3:=f1.trans (f2.below.mono f1.size)
   clear o1 f2 hb
   have oz:=one_str w2 s (w2.heap.size+1) (by omega)
   have hbp:Below w.heap.size w2 (w2.alloc (.cells #[.string (strB s)] 9)):=(Below.refl _ _).alloc f3.size _
   go_wp2_with (first|(at_builtin;go_must (refine appendRow TS sC_len sC_one rfl rfl rfl (o2.below (Nat.le_refl _) ((Below.refl _ w2).alloc (Nat.le_refl _) _)) rfl oz (by omega) (by simp only[maxLen];omega) hbp f3.size ?_);intro A5 c5 w5 o5 f5 g5))
   rw[HTS.out] at o5
   have f6:=f3.trans f5
   clear o2 g5 oz hbp f5 f3 f1
   go_roundw
   case rel=>exact⟨3,A5,c5,rfl,by omega,rfl,o5,f6⟩
   case measure=>simp[intOf]
  ·have hb:=and_oct a 3 ha ((a:Int)) (by simp only[show 24-8*3=0 from rfl];omega)
   have ho:=oct_lt a 3
   have hi:=fun w h=>itoa_any (oct a 3:Int) w h (by omega) (by omega)
   have hts:(octs a).take 3++[Lib.itoa (oct a 3:Int)]=(octs a).take 4:=rfl
   have HTS:=Lib.hid hts;clear hts
   generalize Lib.itoa (oct a 3:Int)=s at *
   have b0:(0:Int)≤(oct a 3:Int):=by omega
   have b1:(oct a 3:Int)≤255:=by omega
   generalize (oct a 3:Int)=q at *
   clear ho
   go_wp2_with fail
   refine (hi wr (hW.below hlt f1)).mono ?_
   rintro e w2 ⟨rfl,f2⟩
   have o2:=o1.below (Nat.le_refl _) f2.below
   have f3:=f1.trans (f2.below.mono f1.size)
   clear o1 f2 hb
   have oz:=one_str w2 s (w2.heap.size+1) (by omega)
   have hbp:Below w.heap.size w2 (w2.alloc (.cells #[.string (strB s)] 9)):=(Below.refl _ _).alloc f3.size _
   go_wp2_with (first|(at_builtin;go_must (refine appendRow TS sC_len sC_one rfl rfl rfl (o2.below (Nat.le_refl _) ((Below.refl _ w2).alloc (Nat.le_refl _) _)) rfl oz (by omega) (by simp only[maxLen];omega) hbp f3.size ?_);intro A5 c5 w5 o5 f5 g5))
   rw[HTS.out] at o5
   have f6:=f3.trans f5
   clear o2 g5 oz hbp f5 f3 f1
   go_roundw
   case rel=>exact⟨4,A5,c5,rfl,by omega,rfl,o5,f6⟩
   case measure=>simp[intOf]
  have hcap:=o1.cap
  have rd:=o1.rd sC_len
  rw[show (octs a).take 4=octs a from rfl] at rd
  have hj:=join_len a
  have hjn:=join_any A 4 c (octs a) wr rd hcap (by omega) (by omega) (by show (printA a).length≤_;omega)
  rw[show Lib.join (octs a) [46]=printA a from rfl] at hjn
  obtain⟨s,hs⟩:∃s,printA a=s:=⟨_,rfl⟩
  rw[hs] at hjn hj
  have HP:=Lib.hid hs;clear hs
  clear o1 rd
  go_wp2_with fail
  refine hjn.mono ?_
  rintro e w2 ⟨rfl,f2⟩
  have f3:=f1.trans (f2.mono f1.size)
  go_wp2_with fail
  go_ret
  exact⟨by rw[HP.out];rfl,f3⟩
end Go.Proofs.YtpcdmbajfmnoiaaGreatDoor
