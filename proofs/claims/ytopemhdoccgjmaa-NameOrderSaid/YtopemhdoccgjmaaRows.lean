/-
  No cell of these rows narrows 'for every input' (looked for: loops, veiled, ifaces, maps, wideKeys, modest, calm, conditions, laid).
  DERIVED. THE GIVEN ROWS OF THIS SEAT. 5 by the template 'for every input the law returns true; each argument reads behind the call as it read before'; 0 by the template 'total and deterministic' (their statements: YtopemhdoccgjmaaTotals.lean).
  GIVEN WITH THE SEED: the statements are not yours to turn. If you find one false, say at which input.
  Laid BY PROGRAM, IN A SANDBOX (cutbox-rows.mjs): the forced cells as the released guide's own fill.sh prints them over the translation 5eeee774ad67beec… (all of the seat's roots in one cut). By AI agents, Wed Nov 11 2026. No macro, syntax, notation, axiom, sorry.
-/
import Derived.Test.YtopemhdoccgjmaaChecked
import GoSem.Claim
import GoSem.ClaimJoined
import GoSem.ClaimMapViews
import Derived.JoinedTies
import Derived.KernelRfl
namespace Go.Proofs.Ytopemhdoccgjmaa
/- THE CELL 'sum', in the pinned program and in every row, IS THE sha256 OF THE DUMP (.gsa) THAT YtopemhdoccgjmaaProg.lean LOADS. Nothing in Lean hashes anything: it is a label: what it is worth is what the hold of that sum in a sandbox is worth. -/
noncomputable def Try.pinned : Pinned := { name := "ytopemhdoccgjmaa", sum := "5eeee774ad67beecfb1eccf10d33e7b48ab24355d0f8933469b7c9b68c7bb2c9", checked := Try.checked }
namespace Rows
def none {H : Type} : Left H := { results := [], args := [] }

/-- 'gatepostlaw05.NameParse': WHATEVER THE INPUT: true; the input reads as it did. -/
def nameParseSpec : ChangeSpec := { name := "nameParse", fn := fun _ => fun
  | [d] => { results := [.lit (.bool true)], args := [d] }
  | _ => none }
def nameParseRow : OpenClaim := { program := "ytopemhdoccgjmaa", sum := "5eeee774ad67beecfb1eccf10d33e7b48ab24355d0f8933469b7c9b68c7bb2c9", func := "gatepost/gatepostlaw05.NameParse", spec := "nameParse", inPlace := ["internal/bytealg.IndexByteString", "internal/bytealg.IndexString"], named := ["internal/bytealg.MaxLen"], apart := false }
def NameParseSaid : Prop := nameParseRow.holds Try.pinned (OpenSpec.ofChange nameParseSpec)

/-- ITS FALSE NEIGHBOUR: 'it returns false'. Refute it at one input. -/
def nameParseWrong : ChangeSpec := { name := "nameParse", fn := fun _ => fun
  | [d] => { results := [.lit (.bool false)], args := [d] }
  | _ => none }
def NameParseWrongFalsely : Prop := nameParseRow.holds Try.pinned (OpenSpec.ofChange nameParseWrong)

/-- 'gatepostlaw05.NameBack': WHATEVER THE INPUT: true; the input reads as it did. -/
def nameBackSpec : ChangeSpec := { name := "nameBack", fn := fun _ => fun
  | [d1, d2, d3] => { results := [.lit (.bool true)], args := [d1, d2, d3] }
  | _ => none }
def nameBackRow : OpenClaim := { program := "ytopemhdoccgjmaa", sum := "5eeee774ad67beecfb1eccf10d33e7b48ab24355d0f8933469b7c9b68c7bb2c9", func := "gatepost/gatepostlaw05.NameBack", spec := "nameBack", inPlace := ["internal/bytealg.IndexByteString", "internal/bytealg.IndexString"], named := ["internal/bytealg.MaxLen"], apart := false }
def NameBackSaid : Prop := nameBackRow.holds Try.pinned (OpenSpec.ofChange nameBackSpec)

/-- ITS FALSE NEIGHBOUR: 'it returns false'. Refute it at one input. -/
def nameBackWrong : ChangeSpec := { name := "nameBack", fn := fun _ => fun
  | [d1, d2, d3] => { results := [.lit (.bool false)], args := [d1, d2, d3] }
  | _ => none }
def NameBackWrongFalsely : Prop := nameBackRow.holds Try.pinned (OpenSpec.ofChange nameBackWrong)

/-- 'gatepostlaw05.NameMay': WHATEVER THE INPUT: true; the input reads as it did. -/
def nameMaySpec : ChangeSpec := { name := "nameMay", fn := fun _ => fun
  | [d1, d2, d3] => { results := [.lit (.bool true)], args := [d1, d2, d3] }
  | _ => none }
def nameMayRow : OpenClaim := { program := "ytopemhdoccgjmaa", sum := "5eeee774ad67beecfb1eccf10d33e7b48ab24355d0f8933469b7c9b68c7bb2c9", func := "gatepost/gatepostlaw05.NameMay", spec := "nameMay", inPlace := ["internal/bytealg.IndexByteString", "internal/bytealg.IndexString"], named := ["internal/bytealg.MaxLen"], apart := false }
def NameMaySaid : Prop := nameMayRow.holds Try.pinned (OpenSpec.ofChange nameMaySpec)

/-- ITS FALSE NEIGHBOUR: 'it returns false'. Refute it at one input. -/
def nameMayWrong : ChangeSpec := { name := "nameMay", fn := fun _ => fun
  | [d1, d2, d3] => { results := [.lit (.bool false)], args := [d1, d2, d3] }
  | _ => none }
def NameMayWrongFalsely : Prop := nameMayRow.holds Try.pinned (OpenSpec.ofChange nameMayWrong)

/-- 'gatepostlaw05.NameSort': WHATEVER THE INPUT: true; the input reads as it did. -/
def nameSortSpec : ChangeSpec := { name := "nameSort", fn := fun _ => fun
  | [d] => { results := [.lit (.bool true)], args := [d] }
  | _ => none }
def nameSortRow : OpenClaim := { program := "ytopemhdoccgjmaa", sum := "5eeee774ad67beecfb1eccf10d33e7b48ab24355d0f8933469b7c9b68c7bb2c9", func := "gatepost/gatepostlaw05.NameSort", spec := "nameSort", inPlace := ["internal/bytealg.IndexByteString", "internal/bytealg.IndexString"], unfollowed := true, recurses := true, named := ["internal/bytealg.MaxLen"], apart := false }
def NameSortSaid : Prop := nameSortRow.holds Try.pinned (OpenSpec.ofChange nameSortSpec)

/-- ITS FALSE NEIGHBOUR: 'it returns false'. Refute it at one input. -/
def nameSortWrong : ChangeSpec := { name := "nameSort", fn := fun _ => fun
  | [d] => { results := [.lit (.bool false)], args := [d] }
  | _ => none }
def NameSortWrongFalsely : Prop := nameSortRow.holds Try.pinned (OpenSpec.ofChange nameSortWrong)

/-- 'gatepostlaw05.NameOrder': WHATEVER THE INPUT: true; the input reads as it did. -/
def nameOrderSpec : ChangeSpec := { name := "nameOrder", fn := fun _ => fun
  | [d] => { results := [.lit (.bool true)], args := [d] }
  | _ => none }
def nameOrderRow : OpenClaim := { program := "ytopemhdoccgjmaa", sum := "5eeee774ad67beecfb1eccf10d33e7b48ab24355d0f8933469b7c9b68c7bb2c9", func := "gatepost/gatepostlaw05.NameOrder", spec := "nameOrder", inPlace := ["internal/bytealg.IndexByteString", "internal/bytealg.IndexString"], unfollowed := true, recurses := true, named := ["internal/bytealg.MaxLen"], apart := false }
def NameOrderSaid : Prop := nameOrderRow.holds Try.pinned (OpenSpec.ofChange nameOrderSpec)

/-- ITS FALSE NEIGHBOUR: 'it returns false'. Refute it at one input. -/
def nameOrderWrong : ChangeSpec := { name := "nameOrder", fn := fun _ => fun
  | [d] => { results := [.lit (.bool false)], args := [d] }
  | _ => none }
def NameOrderWrongFalsely : Prop := nameOrderRow.holds Try.pinned (OpenSpec.ofChange nameOrderWrong)

/- THE SECOND FORM. 'bulk': how many values and letters a reading holds, each counted each time it is reached (what is shared counts as often as it is met; a slice's spare places count too). A statement '..UptoSaid' is the law's where the arguments, and the package variables that the reading takes, are together of bulk at most 1048576: NARROWER than '..Said'. Prove '..Said' where nothing that the law and all that it calls make is longer than what came in: it says more and counts as full. Else prove '..UptoSaid'. A law counts once. -/
mutual
def uptoBulk {H : Type} : DataW H → Nat
  | .lit (.string bytes) => bytes.length + 1
  | .lit _ => 1
  | .nil => 1
  | .ptr d => uptoBulk d + 1
  | .slice elems spare => uptoBulkAll elems + uptoBulkAll spare + 1
  | .agg parts => uptoBulkAll parts + 1
  | .iface _ d => uptoBulk d + 1
  | .map entries => uptoBulkEntries entries + 1
  | .held _ => 1
def uptoBulkAll {H : Type} : List (DataW H) → Nat
  | [] => 0
  | d :: r => uptoBulk d + uptoBulkAll r
def uptoBulkEntries {H : Type} : List (Lit × DataW H) → Nat
  | [] => 0
  | x :: r => uptoBulkEntry x + uptoBulkEntries r
def uptoBulkEntry {H : Type} : Lit × DataW H → Nat
  | (.string bytes, d) => bytes.length + uptoBulk d + 1
  | (_, d) => uptoBulk d + 1
 end
def uptoSmall : (H : Type) → List (DataW H) → Bool := fun _ ds => decide (uptoBulkAll ds ≤ 1048576)
def OpenSpec.upto (s : _root_.Go.ChangeSpec) : _root_.Go.OpenSpec := { _root_.Go.OpenSpec.ofChange s with cond := some uptoSmall }

/-- 'gatepostlaw05.NameParse', WHERE WHAT IT READS IS OF BULK AT MOST 1048576: true; the input reads as it did. -/
def nameParseUptoRow : OpenClaim := { program := "ytopemhdoccgjmaa", sum := "5eeee774ad67beecfb1eccf10d33e7b48ab24355d0f8933469b7c9b68c7bb2c9", func := "gatepost/gatepostlaw05.NameParse", spec := "nameParse", inPlace := ["internal/bytealg.IndexByteString", "internal/bytealg.IndexString"], named := ["internal/bytealg.MaxLen"], apart := false, narrowed := true }
def NameParseUptoSaid : Prop := nameParseUptoRow.holds Try.pinned (OpenSpec.upto nameParseSpec)

/-- 'gatepostlaw05.NameBack', WHERE WHAT IT READS IS OF BULK AT MOST 1048576: true; the input reads as it did. -/
def nameBackUptoRow : OpenClaim := { program := "ytopemhdoccgjmaa", sum := "5eeee774ad67beecfb1eccf10d33e7b48ab24355d0f8933469b7c9b68c7bb2c9", func := "gatepost/gatepostlaw05.NameBack", spec := "nameBack", inPlace := ["internal/bytealg.IndexByteString", "internal/bytealg.IndexString"], named := ["internal/bytealg.MaxLen"], apart := false, narrowed := true }
def NameBackUptoSaid : Prop := nameBackUptoRow.holds Try.pinned (OpenSpec.upto nameBackSpec)

/-- 'gatepostlaw05.NameMay', WHERE WHAT IT READS IS OF BULK AT MOST 1048576: true; the input reads as it did. -/
def nameMayUptoRow : OpenClaim := { program := "ytopemhdoccgjmaa", sum := "5eeee774ad67beecfb1eccf10d33e7b48ab24355d0f8933469b7c9b68c7bb2c9", func := "gatepost/gatepostlaw05.NameMay", spec := "nameMay", inPlace := ["internal/bytealg.IndexByteString", "internal/bytealg.IndexString"], named := ["internal/bytealg.MaxLen"], apart := false, narrowed := true }
def NameMayUptoSaid : Prop := nameMayUptoRow.holds Try.pinned (OpenSpec.upto nameMaySpec)

/-- 'gatepostlaw05.NameSort', WHERE WHAT IT READS IS OF BULK AT MOST 1048576: true; the input reads as it did. -/
def nameSortUptoRow : OpenClaim := { program := "ytopemhdoccgjmaa", sum := "5eeee774ad67beecfb1eccf10d33e7b48ab24355d0f8933469b7c9b68c7bb2c9", func := "gatepost/gatepostlaw05.NameSort", spec := "nameSort", inPlace := ["internal/bytealg.IndexByteString", "internal/bytealg.IndexString"], unfollowed := true, recurses := true, named := ["internal/bytealg.MaxLen"], apart := false, narrowed := true }
def NameSortUptoSaid : Prop := nameSortUptoRow.holds Try.pinned (OpenSpec.upto nameSortSpec)

/-- 'gatepostlaw05.NameOrder', WHERE WHAT IT READS IS OF BULK AT MOST 1048576: true; the input reads as it did. -/
def nameOrderUptoRow : OpenClaim := { program := "ytopemhdoccgjmaa", sum := "5eeee774ad67beecfb1eccf10d33e7b48ab24355d0f8933469b7c9b68c7bb2c9", func := "gatepost/gatepostlaw05.NameOrder", spec := "nameOrder", inPlace := ["internal/bytealg.IndexByteString", "internal/bytealg.IndexString"], unfollowed := true, recurses := true, named := ["internal/bytealg.MaxLen"], apart := false, narrowed := true }
def NameOrderUptoSaid : Prop := nameOrderUptoRow.holds Try.pinned (OpenSpec.upto nameOrderSpec)

end Rows
end Go.Proofs.Ytopemhdoccgjmaa
