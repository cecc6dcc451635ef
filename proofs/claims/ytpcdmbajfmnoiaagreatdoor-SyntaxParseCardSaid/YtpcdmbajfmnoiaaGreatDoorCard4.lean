/- What law 04's rows list, as the walks ask it; a world that has it. No condition. -/
import Derived.Test.YtpcdmbajfmnoiaaGreatDoorRows
import Derived.Test.YtpcdmbajfmnoiaaGreatDoorCardKit
import GoSem.PinnedTables
import Derived.Test.YtpcdmbajfmnoiaaGreatDoorAddrW
namespace Go.Proofs.YtpcdmbajfmnoiaaGreatDoor
set_option linter.unusedVariables false
set_option linter.unusedSimpArgs false
open Go Go.RowKit
def listed : List (String × DataW Unit) := [("math/bits.deBruijn32tab", Rows.laid_math_bits_deBruijn32tab), ("math/bits.deBruijn64tab", Rows.laid_math_bits_deBruijn64tab), ("internal/strconv.uint64pow10", Rows.laid_internal_strconv_uint64pow10), ("unicode/utf8.acceptRanges", Rows.laid_unicode_utf8_acceptRanges), ("strconv.ErrRange", Rows.laid_strconv_ErrRange), ("strconv.ErrSyntax", Rows.laid_strconv_ErrSyntax), ("unicode/utf8.first", Rows.laid_unicode_utf8_first)]
theorem cardStar : "*" ++ "errors.errorString" = "*errors.errorString" := by decide
theorem cardRow (u : TypeId) (h : Tryz.prog.typeName? 3 u = some "*errors.errorString") : u = 253 :=
 typeName_ptr_named (nm := "errors.errorString") (by rw [cardStar]; kernel_rfl) (by kernel_rfl) (by decide) u (by rw [cardStar]; exact h)
theorem gRngT:(Tryz.prog.globals[7]?).map (·.type)=some 160:=by kernel_rfl
theorem gSynT:(Tryz.prog.globals[6]?).map (·.type)=some 160:=by kernel_rfl
theorem gPowT:(Tryz.prog.globals[0]?).map (·.type)=some 200:=by kernel_rfl
theorem cMax(w:World)(h:w.ShapedOpen Tryz.prog):∃m,w.cell? ⟨1,0,none⟩=some (.int .i64 m) :=
 cell_of_shapedOpen_int (zero:=#[.int .i64 0]) (t:=3) h (of_decide_eq_true (by kernel_rfl)) (by kernel_rfl) rfl (by kernel_rfl) (by kernel_rfl) Tryz.underlying3
theorem listed_of{W:World}(hs:W.ShapedOpen Tryz.prog)(h:laidMetH Tryz.prog listed W):LdW W:=by
 rw[MakeChecks.laidMetH_plain _ _ _ (by kernel_rfl)] at h
 have h2:=h.tail.tail
 have h5:=h2.tail.tail
 have h6:=h5.tail
 refine⟨cMax W hs,Lib.tabIs_of_head gPow gPowT Tryz.underlying200 Tryz.underlying36 (by kernel_rfl) (by kernel_rfl) h2,?_,?_⟩
 ·obtain⟨a,s,hv,_⟩:=laid_sentinel h6 gSyn gSynT Tryz.underlying160 cardRow Tryz.underlying253 Tryz.underlying255 rfl rfl Tryz.underlying9 (by kernel_rfl) (by kernel_rfl)
  exact⟨_,_,hv⟩
 obtain⟨a,s,hv,_⟩:=laid_sentinel h5 gRng gRngT Tryz.underlying160 cardRow Tryz.underlying253 Tryz.underlying255 rfl rfl Tryz.underlying9 (by kernel_rfl) (by kernel_rfl)
 exact⟨_,_,hv⟩
noncomputable def start4 (os:Os):World :=
 { World.doorLaid Tryz.prog 72 os with heap:=(World.doorLaid Tryz.prog 72 os).heap.modify 4 fun
   | .cells _ t frozen=>.cells (Go.Pinned.utf8FirstZ.map fun(z:Nat)=>Value.int .u8 (Int.ofNat z)).toArray t frozen
   | o=>o }
theorem start4_met(os:Os)(args:Array Value):laidMetH Tryz.prog listed ((start4 os).forCall (fun _ _=>0) ⟨#[],args,[]⟩).memory :=
 laidMetH_of_parts3 (fuel:=8) (laidMet_of_run' 8 (by kernel_rfl) (by kernel_rfl)) (by kernel_rfl) (by kernel_rfl)
theorem start4_shaped(os:Os)(args:Array Value):((start4 os).forCall (fun _ _=>0) ⟨#[],args,[]⟩).Shaped Tryz.prog :=
 World.shaped_of_RefB (by kernel_rfl) (by kernel_rfl)
end Go.Proofs.YtpcdmbajfmnoiaaGreatDoor
