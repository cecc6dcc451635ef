/- Labels: what name.MayLabel answers; plain laws of labels. No condition. -/
import Derived.Test.YtpcdmbajfmnoiaaGreatDoorChecked
import Derived.Test.YtpcdmbajfmnoiaaGreatDoorBase
import Derived.Laws.RangeAny
import Derived.Laws.RangeString
namespace Go.Proofs.YtpcdmbajfmnoiaaGreatDoor
set_option linter.unusedVariables false
set_option linter.unusedSimpArgs false
open Go.RowKit
def okB(c i n:Nat):Bool:=(decide (97≤c)&&decide (c≤122))||(decide (48≤c)&&decide (c≤57))||(c==45&&i !=0&&i+1 !=n)
def labB(l:List UInt8):Bool:=(List.range l.length).all (fun i=>okB (at8 l i).toNat i l.length)&&decide (1≤l.length)&&decide (l.length≤20)
theorem labB_of{l:List UInt8}(h:∀i,i<l.length→okB (at8 l i).toNat i l.length=true):labB l=(decide (1≤l.length)&&decide (l.length≤20)):=by
 unfold labB
 have:(List.range l.length).all (fun i=>okB (at8 l i).toNat i l.length)=true:=by
  rw[List.all_eq_true]
  intro i hi
  exact h i (List.mem_range.1 hi)
 rw[this,Bool.true_and]
theorem labB_no{l:List UInt8}{i:Nat}(hi:i<l.length)(h:okB (at8 l i).toNat i l.length=false):labB l=false:=by
 unfold labB
 have:(List.range l.length).all (fun i=>okB (at8 l i).toNat i l.length)=false:=by
  rw[List.all_eq_false]
  exact⟨i,List.mem_range.2 hi,by simp[h]⟩
 rw[this,Bool.false_and,Bool.false_and]
theorem okB_high{c i n:Nat}(h:128≤c):okB c i n=false:=by
 unfold okB
 have e1:decide (c≤122)=false:=by simp;omega
 have e2:decide (c≤57)=false:=by simp;omega
 have e3:(c==45)=false:=by simp;omega
 simp[e1,e2,e3]
theorem strB_at(l:List UInt8)(k:Nat)(h:k<(strB l).size):((strB l)[k]'h).toNat=(at8 l k).toNat:=by
 have hk:k<l.length:=by rwa [strB_size] at h
 simp[strB,at8,List.getD,hk]
 rfl
theorem okB_true{c i n:Nat}(h:(97≤c∧c≤122)∨(48≤c∧c≤57)∨(c=45∧i≠0∧i+1≠n)):okB c i n=true:=by
 unfold okB
 rcases h with h|h|h
 ·simp[h.1,h.2]
 ·simp[h.1,h.2]
 simp[h.1,h.2.1,h.2.2]
theorem okB_false{c i n:Nat}(h:¬((97≤c∧c≤122)∨(48≤c∧c≤57)∨(c=45∧i≠0∧i+1≠n))):okB c i n=false:=by
 rw[Bool.eq_false_iff]
 intro h2
 apply h
 unfold okB at h2
 simp at h2
 omega
set_option maxRecDepth 100000 in
set_option maxHeartbeats 2000000 in
theorem mayLabel_any(l:List UInt8)(hl:l.length≤9223372036854775807)(w:World) :
  Calls Tryz.prog 34 #[.string (strB l)] w fun e w'=>e=.returned (.bool (labB l))∧Below w.heap.size w w':=by
 have hsz:=strB_size l
 generalize hs:strB l=s at *
 have hat:∀k (h:k<s.size),(s[k]'h).toNat=(at8 l k).toNat:=by subst hs;exact strB_at l
 have Hs:=Lib.hid hs
 have Hat:=Lib.hid hat
 clear hs hat
 generalize hn:l.length=n at *
 have Hn:=Lib.hid hn
 clear hn
 go_enter Tryz.func34,Tryz.ntmps34
 go_wp2_with fail
 go_loopw [3,4,5] (fun _ _ _ wr=>∃pos:Nat,wr=w.iter s pos∧pos≤n∧(∀i,i<pos→okB (at8 l i).toNat i n=true)) (fun _ _ _ wr=>n-wr.iterPos w.heap.size)
 case atStart=>exact⟨0,rfl,by omega,fun i hi=>absurd hi (by omega)⟩
 case round =>
  obtain⟨pos,rfl,hp,hok⟩:=hrel
  have Hok:=Lib.hid hok
  clear hok
  by_cases hlt:pos<s.size
  ·have hnx:∀ty,(Instr.next (.pointer (some ⟨w.heap.size,0,none⟩)) true ty).run Tryz.prog (w.iter s pos)=_:=fun ty=>run_next_any w s pos ty hlt
   by_cases ha:(s[pos]'hlt).toNat<128
   ·have hd:=decode_ascii s pos hlt ha
    rw[hd] at hnx
    simp only at hnx
    rw[Hat.out pos hlt] at hnx ha
    generalize hC:(at8 l pos).toNat=C at *
    have HC:=Lib.hid hC
    clear hd hC
    by_cases h0:pos=0
    ·have e0:((pos:Int)==0)=true:=by simp;omega
     have H0:=Lib.hid h0
     clear h0
     by_cases h1:pos+1=n
     ·have e1:((pos:Int)+1==(n:Int))=true:=by simp;omega
      have H1:=Lib.hid h1
      clear h1
      by_cases hA:97≤C∧C≤122
      ·have d1:decide ((97:Int)≤(C:Int))=true:=by simp;omega
       have d2:decide ((C:Int)≤122)=true:=by simp;omega
       go_wp2_with fail
       go_roundw
       case rel =>
        refine⟨pos+1,rfl,by omega,fun i hi=>?_⟩
        by_cases hip:i=pos
        ·subst hip;rw[HC.out];exact okB_true (by have:=H0.out;have:=H1.out;omega)
        exact Hok.out i (by omega)
       case measure=>simp;omega
      by_cases hB:48≤C∧C≤57
      ·have d1:decide ((97:Int)≤(C:Int))=false:=by simp;omega
       have d3:decide ((48:Int)≤(C:Int))=true:=by simp;omega
       have d4:decide ((C:Int)≤57)=true:=by simp;omega
       go_wp2_with fail
       go_roundw
       case rel =>
        refine⟨pos+1,rfl,by omega,fun i hi=>?_⟩
        by_cases hip:i=pos
        ·subst hip;rw[HC.out];exact okB_true (by have:=H0.out;have:=H1.out;omega)
        exact Hok.out i (by omega)
       case measure=>simp;omega
      by_cases hC:C=45
      ·have d1:decide ((97:Int)≤(C:Int))=false:=by simp;omega
       have d3:decide ((48:Int)≤(C:Int))=false:=by simp;omega
       have d5:((C:Int)==45)=true:=by simp;omega
       have HC5:=Lib.hid hC
       clear hC
       go_wp2_with fail
       go_ret
       have hno:=labB_no (l:=l) (i:=pos) (by rw[Hn.out];omega) (by rw[HC.out,Hn.out];exact okB_false (by have:=H0.out;have:=H1.out;have:=HC5.out;omega))
       exact⟨by rw[hno];first|rfl|skip,(Below.refl _ w).alloc (Nat.le_refl _) _⟩
      have d5:((C:Int)==45)=false:=by simp;omega
      by_cases hD:122<C
      ·have d1:decide ((97:Int)≤(C:Int))=true:=by simp;omega
       have d2:decide ((C:Int)≤122)=false:=by simp;omega
       have d3:decide ((48:Int)≤(C:Int))=true:=by simp;omega
       have d4:decide ((C:Int)≤57)=false:=by simp;omega
       go_wp2_with fail
       go_ret
       have hno:=labB_no (l:=l) (i:=pos) (by rw[Hn.out];omega) (by rw[HC.out,Hn.out];exact okB_false (by have:=H0.out;have:=H1.out;omega))
       exact⟨by rw[hno];first|rfl|skip,(Below.refl _ w).alloc (Nat.le_refl _) _⟩
      have d1:decide ((97:Int)≤(C:Int))=false:=by simp;omega
      by_cases hE:48≤C
      ·have d3:decide ((48:Int)≤(C:Int))=true:=by simp;omega
       have d4:decide ((C:Int)≤57)=false:=by simp;omega
       go_wp2_with fail
       go_ret
       have hno:=labB_no (l:=l) (i:=pos) (by rw[Hn.out];omega) (by rw[HC.out,Hn.out];exact okB_false (by have:=H0.out;have:=H1.out;omega))
       exact⟨by rw[hno];first|rfl|skip,(Below.refl _ w).alloc (Nat.le_refl _) _⟩
      have d3:decide ((48:Int)≤(C:Int))=false:=by simp;omega
      go_wp2_with fail
      go_ret
      have hno:=labB_no (l:=l) (i:=pos) (by rw[Hn.out];omega) (by rw[HC.out,Hn.out];exact okB_false (by have:=H0.out;have:=H1.out;omega))
      exact⟨by rw[hno];first|rfl|skip,(Below.refl _ w).alloc (Nat.le_refl _) _⟩
     have e1:((pos:Int)+1==(n:Int))=false:=by simp;omega
     have H1:=Lib.hid h1
     clear h1
     by_cases hA:97≤C∧C≤122
     ·have d1:decide ((97:Int)≤(C:Int))=true:=by simp;omega
      have d2:decide ((C:Int)≤122)=true:=by simp;omega
      go_wp2_with fail
      go_roundw
      case rel =>
       refine⟨pos+1,rfl,by omega,fun i hi=>?_⟩
       by_cases hip:i=pos
       ·subst hip;rw[HC.out];exact okB_true (by have:=H0.out;have:=H1.out;omega)
       exact Hok.out i (by omega)
      case measure=>simp;omega
     by_cases hB:48≤C∧C≤57
     ·have d1:decide ((97:Int)≤(C:Int))=false:=by simp;omega
      have d3:decide ((48:Int)≤(C:Int))=true:=by simp;omega
      have d4:decide ((C:Int)≤57)=true:=by simp;omega
      go_wp2_with fail
      go_roundw
      case rel =>
       refine⟨pos+1,rfl,by omega,fun i hi=>?_⟩
       by_cases hip:i=pos
       ·subst hip;rw[HC.out];exact okB_true (by have:=H0.out;have:=H1.out;omega)
       exact Hok.out i (by omega)
      case measure=>simp;omega
     by_cases hC:C=45
     ·have d1:decide ((97:Int)≤(C:Int))=false:=by simp;omega
      have d3:decide ((48:Int)≤(C:Int))=false:=by simp;omega
      have d5:((C:Int)==45)=true:=by simp;omega
      have HC5:=Lib.hid hC
      clear hC
      go_wp2_with fail
      go_ret
      have hno:=labB_no (l:=l) (i:=pos) (by rw[Hn.out];omega) (by rw[HC.out,Hn.out];exact okB_false (by have:=H0.out;have:=H1.out;have:=HC5.out;omega))
      exact⟨by rw[hno];first|rfl|skip,(Below.refl _ w).alloc (Nat.le_refl _) _⟩
     have d5:((C:Int)==45)=false:=by simp;omega
     by_cases hD:122<C
     ·have d1:decide ((97:Int)≤(C:Int))=true:=by simp;omega
      have d2:decide ((C:Int)≤122)=false:=by simp;omega
      have d3:decide ((48:Int)≤(C:Int))=true:=by simp;omega
      have d4:decide ((C:Int)≤57)=false:=by simp;omega
      go_wp2_with fail
      go_ret
      have hno:=labB_no (l:=l) (i:=pos) (by rw[Hn.out];omega) (by rw[HC.out,Hn.out];exact okB_false (by have:=H0.out;have:=H1.out;omega))
      exact⟨by rw[hno];first|rfl|skip,(Below.refl _ w).alloc (Nat.le_refl _) _⟩
     have d1:decide ((97:Int)≤(C:Int))=false:=by simp;omega
     by_cases hE:48≤C
     ·have d3:decide ((48:Int)≤(C:Int))=true:=by simp;omega
      have d4:decide ((C:Int)≤57)=false:=by simp;omega
      go_wp2_with fail
      go_ret
      have hno:=labB_no (l:=l) (i:=pos) (by rw[Hn.out];omega) (by rw[HC.out,Hn.out];exact okB_false (by have:=H0.out;have:=H1.out;omega))
      exact⟨by rw[hno];first|rfl|skip,(Below.refl _ w).alloc (Nat.le_refl _) _⟩
     have d3:decide ((48:Int)≤(C:Int))=false:=by simp;omega
     go_wp2_with fail
     go_ret
     have hno:=labB_no (l:=l) (i:=pos) (by rw[Hn.out];omega) (by rw[HC.out,Hn.out];exact okB_false (by have:=H0.out;have:=H1.out;omega))
     exact⟨by rw[hno];first|rfl|skip,(Below.refl _ w).alloc (Nat.le_refl _) _⟩
    have e0:((pos:Int)==0)=false:=by simp;omega
    have H0:=Lib.hid h0
    clear h0
    by_cases h1:pos+1=n
    ·have e1:((pos:Int)+1==(n:Int))=true:=by simp;omega
     have H1:=Lib.hid h1
     clear h1
     by_cases hA:97≤C∧C≤122
     ·have d1:decide ((97:Int)≤(C:Int))=true:=by simp;omega
      have d2:decide ((C:Int)≤122)=true:=by simp;omega
      go_wp2_with fail
      go_roundw
      case rel =>
       refine⟨pos+1,rfl,by omega,fun i hi=>?_⟩
       by_cases hip:i=pos
       ·subst hip;rw[HC.out];exact okB_true (by have:=H0.out;have:=H1.out;omega)
       exact Hok.out i (by omega)
      case measure=>simp;omega
     by_cases hB:48≤C∧C≤57
     ·have d1:decide ((97:Int)≤(C:Int))=false:=by simp;omega
      have d3:decide ((48:Int)≤(C:Int))=true:=by simp;omega
      have d4:decide ((C:Int)≤57)=true:=by simp;omega
      go_wp2_with fail
      go_roundw
      case rel =>
       refine⟨pos+1,rfl,by omega,fun i hi=>?_⟩
       by_cases hip:i=pos
       ·subst hip;rw[HC.out];exact okB_true (by have:=H0.out;have:=H1.out;omega)
       exact Hok.out i (by omega)
      case measure=>simp;omega
     by_cases hC:C=45
     ·have d1:decide ((97:Int)≤(C:Int))=false:=by simp;omega
      have d3:decide ((48:Int)≤(C:Int))=false:=by simp;omega
      have d5:((C:Int)==45)=true:=by simp;omega
      have HC5:=Lib.hid hC
      clear hC
      go_wp2_with fail
      go_ret
      have hno:=labB_no (l:=l) (i:=pos) (by rw[Hn.out];omega) (by rw[HC.out,Hn.out];exact okB_false (by have:=H0.out;have:=H1.out;have:=HC5.out;omega))
      exact⟨by rw[hno];first|rfl|skip,(Below.refl _ w).alloc (Nat.le_refl _) _⟩
     have d5:((C:Int)==45)=false:=by simp;omega
     by_cases hD:122<C
     ·have d1:decide ((97:Int)≤(C:Int))=true:=by simp;omega
      have d2:decide ((C:Int)≤122)=false:=by simp;omega
      have d3:decide ((48:Int)≤(C:Int))=true:=by simp;omega
      have d4:decide ((C:Int)≤57)=false:=by simp;omega
      go_wp2_with fail
      go_ret
      have hno:=labB_no (l:=l) (i:=pos) (by rw[Hn.out];omega) (by rw[HC.out,Hn.out];exact okB_false (by have:=H0.out;have:=H1.out;omega))
      exact⟨by rw[hno];first|rfl|skip,(Below.refl _ w).alloc (Nat.le_refl _) _⟩
     have d1:decide ((97:Int)≤(C:Int))=false:=by simp;omega
     by_cases hE:48≤C
     ·have d3:decide ((48:Int)≤(C:Int))=true:=by simp;omega
      have d4:decide ((C:Int)≤57)=false:=by simp;omega
      go_wp2_with fail
      go_ret
      have hno:=labB_no (l:=l) (i:=pos) (by rw[Hn.out];omega) (by rw[HC.out,Hn.out];exact okB_false (by have:=H0.out;have:=H1.out;omega))
      exact⟨by rw[hno];first|rfl|skip,(Below.refl _ w).alloc (Nat.le_refl _) _⟩
     have d3:decide ((48:Int)≤(C:Int))=false:=by simp;omega
     go_wp2_with fail
     go_ret
     have hno:=labB_no (l:=l) (i:=pos) (by rw[Hn.out];omega) (by rw[HC.out,Hn.out];exact okB_false (by have:=H0.out;have:=H1.out;omega))
     exact⟨by rw[hno];first|rfl|skip,(Below.refl _ w).alloc (Nat.le_refl _) _⟩
    have e1:((pos:Int)+1==(n:Int))=false:=by simp;omega
    have H1:=Lib.hid h1
    clear h1
    by_cases hA:97≤C∧C≤122
    ·have d1:decide ((97:Int)≤(C:Int))=true:=by simp;omega
     have d2:decide ((C:Int)≤122)=true:=by simp;omega
     go_wp2_with fail
     go_roundw
     case rel =>
      refine⟨pos+1,rfl,by omega,fun i hi=>?_⟩
      by_cases hip:i=pos
      ·subst hip;rw[HC.out];exact okB_true (by have:=H0.out;have:=H1.out;omega)
      exact Hok.out i (by omega)
     case measure=>simp;omega
    by_cases hB:48≤C∧C≤57
    ·have d1:decide ((97:Int)≤(C:Int))=false:=by simp;omega
     have d3:decide ((48:Int)≤(C:Int))=true:=by simp;omega
     have d4:decide ((C:Int)≤57)=true:=by simp;omega
     go_wp2_with fail
     go_roundw
     case rel =>
      refine⟨pos+1,rfl,by omega,fun i hi=>?_⟩
      by_cases hip:i=pos
      ·subst hip;rw[HC.out];exact okB_true (by have:=H0.out;have:=H1.out;omega)
      exact Hok.out i (by omega)
     case measure=>simp;omega
    by_cases hC:C=45
    ·have d1:decide ((97:Int)≤(C:Int))=false:=by simp;omega
     have d3:decide ((48:Int)≤(C:Int))=false:=by simp;omega
     have d5:((C:Int)==45)=true:=by simp;omega
     have HC5:=Lib.hid hC
     clear hC
     go_wp2_with fail
     go_roundw
     case rel =>
      refine⟨pos+1,rfl,by omega,fun i hi=>?_⟩
      by_cases hip:i=pos
      ·subst hip;rw[HC.out];exact okB_true (by have:=H0.out;have:=H1.out;have:=HC5.out;omega)
      exact Hok.out i (by omega)
     case measure=>simp;omega
    have d5:((C:Int)==45)=false:=by simp;omega
    by_cases hD:122<C
    ·have d1:decide ((97:Int)≤(C:Int))=true:=by simp;omega
     have d2:decide ((C:Int)≤122)=false:=by simp;omega
     have d3:decide ((48:Int)≤(C:Int))=true:=by simp;omega
     have d4:decide ((C:Int)≤57)=false:=by simp;omega
     go_wp2_with fail
     go_ret
     have hno:=labB_no (l:=l) (i:=pos) (by rw[Hn.out];omega) (by rw[HC.out,Hn.out];exact okB_false (by have:=H0.out;have:=H1.out;omega))
     exact⟨by rw[hno];first|rfl|skip,(Below.refl _ w).alloc (Nat.le_refl _) _⟩
    have d1:decide ((97:Int)≤(C:Int))=false:=by simp;omega
    by_cases hE:48≤C
    ·have d3:decide ((48:Int)≤(C:Int))=true:=by simp;omega
     have d4:decide ((C:Int)≤57)=false:=by simp;omega
     go_wp2_with fail
     go_ret
     have hno:=labB_no (l:=l) (i:=pos) (by rw[Hn.out];omega) (by rw[HC.out,Hn.out];exact okB_false (by have:=H0.out;have:=H1.out;omega))
     exact⟨by rw[hno];first|rfl|skip,(Below.refl _ w).alloc (Nat.le_refl _) _⟩
    have d3:decide ((48:Int)≤(C:Int))=false:=by simp;omega
    go_wp2_with fail
    go_ret
    have hno:=labB_no (l:=l) (i:=pos) (by rw[Hn.out];omega) (by rw[HC.out,Hn.out];exact okB_false (by have:=H0.out;have:=H1.out;omega))
    exact⟨by rw[hno];first|rfl|skip,(Below.refl _ w).alloc (Nat.le_refl _) _⟩
   have h128:128≤(s[pos]'hlt).toNat:=by omega
   obtain⟨hr1,hr2⟩:=decode_high s pos hlt h128
   rw[Hat.out pos hlt] at h128
   generalize (Utf8.decode s pos).1=R at *
   generalize (Utf8.decode s pos).2=W at *
   have d1:decide ((97:Int)≤(R:Int))=true:=by simp;omega
   have d2:decide ((R:Int)≤122)=false:=by simp;omega
   have d3:decide ((48:Int)≤(R:Int))=true:=by simp;omega
   have d4:decide ((R:Int)≤57)=false:=by simp;omega
   have d5:((R:Int)==45)=false:=by simp;omega
   have hno:=labB_no (l:=l) (i:=pos) (by rw[Hn.out];omega) (okB_high h128)
   have Hno:=Lib.hid hno
   clear hno
   go_wp2_with fail
   all_goals go_ret
   all_goals exact⟨by rw[Hno.out];first|rfl|skip,(Below.refl _ w).alloc (Nat.le_refl _) _⟩
  have hnx:∀ty,(Instr.next (.pointer (some ⟨w.heap.size,0,none⟩)) true ty).run Tryz.prog (w.iter s pos)=_:=fun ty=>run_next_end w s pos ty hlt
  have hof:=labB_of (l:=l) (fun i hi=>by rw[Hn.out] at hi ⊢;exact Hok.out i (by omega))
  rw[Hn.out] at hof
  have Hof:=Lib.hid hof
  clear hof
  by_cases h1:1≤n
  ·have d1:decide ((1:Int)≤(n:Int))=true:=by simp;omega
   by_cases h2:n≤20
   ·have d2:decide ((n:Int)≤20)=true:=by simp;omega
    go_wp2_with fail
    go_ret
    exact⟨by rw[Hof.out];simp[h1,h2],(Below.refl _ w).alloc (Nat.le_refl _) _⟩
   have d2:decide ((n:Int)≤20)=false:=by simp;omega
   go_wp2_with fail
   go_ret
   exact⟨by rw[Hof.out];simp[h1,h2],(Below.refl _ w).alloc (Nat.le_refl _) _⟩
  have d1:decide ((1:Int)≤(n:Int))=false:=by simp;omega
  go_wp2_with fail
  go_ret
  exact⟨by rw[Hof.out];simp[h1],(Below.refl _ w).alloc (Nat.le_refl _) _⟩
end Go.Proofs.YtpcdmbajfmnoiaaGreatDoor
