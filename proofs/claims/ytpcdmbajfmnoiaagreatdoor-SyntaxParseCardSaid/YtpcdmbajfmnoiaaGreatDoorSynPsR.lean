/- syntax.Parse: its row, only read. Conditions: the library's variables hold what they should. -/
import Derived.Test.YtpcdmbajfmnoiaaGreatDoorSynPsAll
namespace Go.Proofs.YtpcdmbajfmnoiaaGreatDoor
set_option linter.unusedVariables false
set_option linter.unusedSimpArgs false
open Go.RowKit
def PsQ(s:List UInt8)(w:World)(e:Ending)(w':World):Prop :=
 Below w.heap.size w w'∧((∃L A c,parseS s=.ok L∧e=.returned (.tuple #[.slice A L.length c,.int .i64 0,.int .i64 0])∧RdG 5 PoP w' w'.heap.size A L.length L)∨∃m:Nat,1≤m∧parseS s=.error m∧e=.returned (.tuple #[.slice none 0 0,.int .i64 (m:Int),.int .i64 2]))
theorem psParse_rd(s:List UInt8)(w:World)(hW:LdW w)(hs:s.length≤65536):Calls Tryz.prog 13 #[.string (strB s)] w fun e w'=>PsQ s w e w':=by
 refine (psParse_any s w hW hs).mono ?_
 rintro e w' ⟨hb,(⟨L,v,h1,rfl,K,hg⟩|h)⟩
 ·obtain⟨A,n,c,h2,_,_,h5⟩:=RvG.mn PoP.mn (hg.rvk (K':=K4 K v (.slice none 0 0) (.slice none 0 0) (.slice none 0 0)) PoP.mn (fun b _ hb=>K4.k hb) (fun b hb=>K4.v1 hb)) (Nat.le_refl _) (Sub.keepOut _ _ _)
  have hn:=h5.1
  subst hn h2
  exact⟨hb,.inl ⟨L,A,c,h1,rfl,h5⟩⟩
 exact⟨hb,.inr h⟩
end Go.Proofs.YtpcdmbajfmnoiaaGreatDoor
