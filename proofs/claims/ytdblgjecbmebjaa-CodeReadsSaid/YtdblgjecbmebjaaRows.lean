/-
  No cell of these rows narrows 'for every input' (looked for: loops, veiled, ifaces, maps, wideKeys, modest, calm, conditions, laid).
  DERIVED. THE GIVEN ROWS OF THIS SEAT. 8 by the template 'for every input the law returns true; each argument reads behind the call as it read before'; 0 by the template 'total and deterministic' (their statements: YtdblgjecbmebjaaTotals.lean).
  GIVEN WITH THE SEED: the statements are not yours to turn. If you find one false, say at which input.
  Laid BY PROGRAM, IN A SANDBOX (cutbox-rows.mjs): the forced cells as the released guide's own fill.sh prints them over the translation ab473ae49eee3ded… (all of the seat's roots in one cut). By AI agents, Wed Nov 11 2026. No macro, syntax, notation, axiom, sorry.
-/
import Derived.Test.YtdblgjecbmebjaaChecked
import GoSem.Claim
import GoSem.ClaimJoined
import GoSem.ClaimMapViews
import Derived.JoinedTies
import Derived.KernelRfl
namespace Go.Proofs.Ytdblgjecbmebjaa
/- THE CELL 'sum', in the pinned program and in every row, IS THE sha256 OF THE DUMP (.gsa) THAT YtdblgjecbmebjaaProg.lean LOADS. Nothing in Lean hashes anything: it is a label: what it is worth is what the hold of that sum in a sandbox is worth. -/
noncomputable def Try.pinned : Pinned := { name := "ytdblgjecbmebjaa", sum := "ab473ae49eee3ded19919da7390032eeab98e23e98d27835174b92b2fc9a1873", checked := Try.checked }
namespace Rows
def none {H : Type} : Left H := { results := [], args := [] }

/-- 'gatepostlaw03.CodeWrites': WHATEVER THE INPUT: true; the input reads as it did. -/
def codeWritesSpec : ChangeSpec := { name := "codeWrites", fn := fun _ => fun
  | [d1, d2] => { results := [.lit (.bool true)], args := [d1, d2] }
  | _ => none }
def codeWritesRow : OpenClaim := { program := "ytdblgjecbmebjaa", sum := "ab473ae49eee3ded19919da7390032eeab98e23e98d27835174b92b2fc9a1873", func := "gatepost/gatepostlaw03.CodeWrites", spec := "codeWrites", unfollowed := true, recurses := true, apart := false }
def CodeWritesSaid : Prop := codeWritesRow.holds Try.pinned (OpenSpec.ofChange codeWritesSpec)

/-- ITS FALSE NEIGHBOUR: 'it returns false'. Refute it at one input. -/
def codeWritesWrong : ChangeSpec := { name := "codeWrites", fn := fun _ => fun
  | [d1, d2] => { results := [.lit (.bool false)], args := [d1, d2] }
  | _ => none }
def CodeWritesWrongFalsely : Prop := codeWritesRow.holds Try.pinned (OpenSpec.ofChange codeWritesWrong)

/-- 'gatepostlaw03.CodeShort': WHATEVER THE INPUT: true; the input reads as it did. -/
def codeShortSpec : ChangeSpec := { name := "codeShort", fn := fun _ => fun
  | [d1, d2] => { results := [.lit (.bool true)], args := [d1, d2] }
  | _ => none }
def codeShortRow : OpenClaim := { program := "ytdblgjecbmebjaa", sum := "ab473ae49eee3ded19919da7390032eeab98e23e98d27835174b92b2fc9a1873", func := "gatepost/gatepostlaw03.CodeShort", spec := "codeShort", unfollowed := true, recurses := true, apart := false }
def CodeShortSaid : Prop := codeShortRow.holds Try.pinned (OpenSpec.ofChange codeShortSpec)

/-- ITS FALSE NEIGHBOUR: 'it returns false'. Refute it at one input. -/
def codeShortWrong : ChangeSpec := { name := "codeShort", fn := fun _ => fun
  | [d1, d2] => { results := [.lit (.bool false)], args := [d1, d2] }
  | _ => none }
def CodeShortWrongFalsely : Prop := codeShortRow.holds Try.pinned (OpenSpec.ofChange codeShortWrong)

/-- 'gatepostlaw03.CodeBounds': WHATEVER THE INPUT: true; the input reads as it did. -/
def codeBoundsSpec : ChangeSpec := { name := "codeBounds", fn := fun _ => fun
  | [d1, d2, d3] => { results := [.lit (.bool true)], args := [d1, d2, d3] }
  | _ => none }
def codeBoundsRow : OpenClaim := { program := "ytdblgjecbmebjaa", sum := "ab473ae49eee3ded19919da7390032eeab98e23e98d27835174b92b2fc9a1873", func := "gatepost/gatepostlaw03.CodeBounds", spec := "codeBounds", unfollowed := true, recurses := true, apart := false }
def CodeBoundsSaid : Prop := codeBoundsRow.holds Try.pinned (OpenSpec.ofChange codeBoundsSpec)

/-- ITS FALSE NEIGHBOUR: 'it returns false'. Refute it at one input. -/
def codeBoundsWrong : ChangeSpec := { name := "codeBounds", fn := fun _ => fun
  | [d1, d2, d3] => { results := [.lit (.bool false)], args := [d1, d2, d3] }
  | _ => none }
def CodeBoundsWrongFalsely : Prop := codeBoundsRow.holds Try.pinned (OpenSpec.ofChange codeBoundsWrong)

/-- 'gatepostlaw03.CodeReads': WHATEVER THE INPUT: true; the input reads as it did. -/
def codeReadsSpec : ChangeSpec := { name := "codeReads", fn := fun _ => fun
  | [d1, d2, d3] => { results := [.lit (.bool true)], args := [d1, d2, d3] }
  | _ => none }
def codeReadsRow : OpenClaim := { program := "ytdblgjecbmebjaa", sum := "ab473ae49eee3ded19919da7390032eeab98e23e98d27835174b92b2fc9a1873", func := "gatepost/gatepostlaw03.CodeReads", spec := "codeReads", unfollowed := true, recurses := true, apart := false }
def CodeReadsSaid : Prop := codeReadsRow.holds Try.pinned (OpenSpec.ofChange codeReadsSpec)

/-- ITS FALSE NEIGHBOUR: 'it returns false'. Refute it at one input. -/
def codeReadsWrong : ChangeSpec := { name := "codeReads", fn := fun _ => fun
  | [d1, d2, d3] => { results := [.lit (.bool false)], args := [d1, d2, d3] }
  | _ => none }
def CodeReadsWrongFalsely : Prop := codeReadsRow.holds Try.pinned (OpenSpec.ofChange codeReadsWrong)

/-- 'gatepostlaw03.CodeNobody': WHATEVER THE INPUT: true; the input reads as it did. -/
def codeNobodySpec : ChangeSpec := { name := "codeNobody", fn := fun _ => fun
  | [d] => { results := [.lit (.bool true)], args := [d] }
  | _ => none }
def codeNobodyRow : OpenClaim := { program := "ytdblgjecbmebjaa", sum := "ab473ae49eee3ded19919da7390032eeab98e23e98d27835174b92b2fc9a1873", func := "gatepost/gatepostlaw03.CodeNobody", spec := "codeNobody", unfollowed := true, recurses := true, apart := false }
def CodeNobodySaid : Prop := codeNobodyRow.holds Try.pinned (OpenSpec.ofChange codeNobodySpec)

/-- ITS FALSE NEIGHBOUR: 'it returns false'. Refute it at one input. -/
def codeNobodyWrong : ChangeSpec := { name := "codeNobody", fn := fun _ => fun
  | [d] => { results := [.lit (.bool false)], args := [d] }
  | _ => none }
def CodeNobodyWrongFalsely : Prop := codeNobodyRow.holds Try.pinned (OpenSpec.ofChange codeNobodyWrong)

/-- 'gatepostlaw03.CodeCut': WHATEVER THE INPUT: true; the input reads as it did. -/
def codeCutSpec : ChangeSpec := { name := "codeCut", fn := fun _ => fun
  | [d1, d2] => { results := [.lit (.bool true)], args := [d1, d2] }
  | _ => none }
def codeCutRow : OpenClaim := { program := "ytdblgjecbmebjaa", sum := "ab473ae49eee3ded19919da7390032eeab98e23e98d27835174b92b2fc9a1873", func := "gatepost/gatepostlaw03.CodeCut", spec := "codeCut", unfollowed := true, recurses := true, apart := false }
def CodeCutSaid : Prop := codeCutRow.holds Try.pinned (OpenSpec.ofChange codeCutSpec)

/-- ITS FALSE NEIGHBOUR: 'it returns false'. Refute it at one input. -/
def codeCutWrong : ChangeSpec := { name := "codeCut", fn := fun _ => fun
  | [d1, d2] => { results := [.lit (.bool false)], args := [d1, d2] }
  | _ => none }
def CodeCutWrongFalsely : Prop := codeCutRow.holds Try.pinned (OpenSpec.ofChange codeCutWrong)

/-- 'gatepostlaw03.CodeOneForm': WHATEVER THE INPUT: true; the input reads as it did. -/
def codeOneFormSpec : ChangeSpec := { name := "codeOneForm", fn := fun _ => fun
  | [d1, d2] => { results := [.lit (.bool true)], args := [d1, d2] }
  | _ => none }
def codeOneFormRow : OpenClaim := { program := "ytdblgjecbmebjaa", sum := "ab473ae49eee3ded19919da7390032eeab98e23e98d27835174b92b2fc9a1873", func := "gatepost/gatepostlaw03.CodeOneForm", spec := "codeOneForm", unfollowed := true, recurses := true, apart := false }
def CodeOneFormSaid : Prop := codeOneFormRow.holds Try.pinned (OpenSpec.ofChange codeOneFormSpec)

/-- ITS FALSE NEIGHBOUR: 'it returns false'. Refute it at one input. -/
def codeOneFormWrong : ChangeSpec := { name := "codeOneForm", fn := fun _ => fun
  | [d1, d2] => { results := [.lit (.bool false)], args := [d1, d2] }
  | _ => none }
def CodeOneFormWrongFalsely : Prop := codeOneFormRow.holds Try.pinned (OpenSpec.ofChange codeOneFormWrong)

/-- 'gatepostlaw03.CodeStopped': WHATEVER THE INPUT: true; the input reads as it did. -/
def codeStoppedSpec : ChangeSpec := { name := "codeStopped", fn := fun _ => fun
  | [d1, d2, d3] => { results := [.lit (.bool true)], args := [d1, d2, d3] }
  | _ => none }
def codeStoppedRow : OpenClaim := { program := "ytdblgjecbmebjaa", sum := "ab473ae49eee3ded19919da7390032eeab98e23e98d27835174b92b2fc9a1873", func := "gatepost/gatepostlaw03.CodeStopped", spec := "codeStopped", unfollowed := true, recurses := true, apart := false }
def CodeStoppedSaid : Prop := codeStoppedRow.holds Try.pinned (OpenSpec.ofChange codeStoppedSpec)

/-- ITS FALSE NEIGHBOUR: 'it returns false'. Refute it at one input. -/
def codeStoppedWrong : ChangeSpec := { name := "codeStopped", fn := fun _ => fun
  | [d1, d2, d3] => { results := [.lit (.bool false)], args := [d1, d2, d3] }
  | _ => none }
def CodeStoppedWrongFalsely : Prop := codeStoppedRow.holds Try.pinned (OpenSpec.ofChange codeStoppedWrong)

/- THE SECOND FORM. 'bulk': how many values and letters a reading holds, each counted each time it is reached (what is shared counts as often as it is met; a slice's spare places count too). A statement '..UptoSaid' is the law's where the arguments, and the package variables that the reading takes, are together of bulk at most 1048576: NARROWER than '..Said'. Prove '..Said' where nothing that the law and all that it calls make is longer than what came in: it says more and counts as full. Else prove '..UptoSaid'. A law counts once. -/
mutual
def uptoBulk {H : Type} : DataW H → Nat
  | .lit (.string bytes) => bytes.length + 1
  | .lit _ => 1
  | .nil => 1
  | .ptr d => uptoBulk d + 1
  | .slice elems spare => uptoBulkAll elems + uptoBulkAll spare + 1
  | .agg parts => uptoBulkAll parts + 1
  | .iface _ d => uptoBulk d + 1
  | .map entries => uptoBulkEntries entries + 1
  | .held _ => 1
def uptoBulkAll {H : Type} : List (DataW H) → Nat
  | [] => 0
  | d :: r => uptoBulk d + uptoBulkAll r
def uptoBulkEntries {H : Type} : List (Lit × DataW H) → Nat
  | [] => 0
  | x :: r => uptoBulkEntry x + uptoBulkEntries r
def uptoBulkEntry {H : Type} : Lit × DataW H → Nat
  | (.string bytes, d) => bytes.length + uptoBulk d + 1
  | (_, d) => uptoBulk d + 1
 end
def uptoSmall : (H : Type) → List (DataW H) → Bool := fun _ ds => decide (uptoBulkAll ds ≤ 1048576)
def OpenSpec.upto (s : _root_.Go.ChangeSpec) : _root_.Go.OpenSpec := { _root_.Go.OpenSpec.ofChange s with cond := some uptoSmall }

/-- 'gatepostlaw03.CodeWrites', WHERE WHAT IT READS IS OF BULK AT MOST 1048576: true; the input reads as it did. -/
def codeWritesUptoRow : OpenClaim := { program := "ytdblgjecbmebjaa", sum := "ab473ae49eee3ded19919da7390032eeab98e23e98d27835174b92b2fc9a1873", func := "gatepost/gatepostlaw03.CodeWrites", spec := "codeWrites", unfollowed := true, recurses := true, apart := false, narrowed := true }
def CodeWritesUptoSaid : Prop := codeWritesUptoRow.holds Try.pinned (OpenSpec.upto codeWritesSpec)

/-- 'gatepostlaw03.CodeShort', WHERE WHAT IT READS IS OF BULK AT MOST 1048576: true; the input reads as it did. -/
def codeShortUptoRow : OpenClaim := { program := "ytdblgjecbmebjaa", sum := "ab473ae49eee3ded19919da7390032eeab98e23e98d27835174b92b2fc9a1873", func := "gatepost/gatepostlaw03.CodeShort", spec := "codeShort", unfollowed := true, recurses := true, apart := false, narrowed := true }
def CodeShortUptoSaid : Prop := codeShortUptoRow.holds Try.pinned (OpenSpec.upto codeShortSpec)

/-- 'gatepostlaw03.CodeBounds', WHERE WHAT IT READS IS OF BULK AT MOST 1048576: true; the input reads as it did. -/
def codeBoundsUptoRow : OpenClaim := { program := "ytdblgjecbmebjaa", sum := "ab473ae49eee3ded19919da7390032eeab98e23e98d27835174b92b2fc9a1873", func := "gatepost/gatepostlaw03.CodeBounds", spec := "codeBounds", unfollowed := true, recurses := true, apart := false, narrowed := true }
def CodeBoundsUptoSaid : Prop := codeBoundsUptoRow.holds Try.pinned (OpenSpec.upto codeBoundsSpec)

/-- 'gatepostlaw03.CodeReads', WHERE WHAT IT READS IS OF BULK AT MOST 1048576: true; the input reads as it did. -/
def codeReadsUptoRow : OpenClaim := { program := "ytdblgjecbmebjaa", sum := "ab473ae49eee3ded19919da7390032eeab98e23e98d27835174b92b2fc9a1873", func := "gatepost/gatepostlaw03.CodeReads", spec := "codeReads", unfollowed := true, recurses := true, apart := false, narrowed := true }
def CodeReadsUptoSaid : Prop := codeReadsUptoRow.holds Try.pinned (OpenSpec.upto codeReadsSpec)

/-- 'gatepostlaw03.CodeNobody', WHERE WHAT IT READS IS OF BULK AT MOST 1048576: true; the input reads as it did. -/
def codeNobodyUptoRow : OpenClaim := { program := "ytdblgjecbmebjaa", sum := "ab473ae49eee3ded19919da7390032eeab98e23e98d27835174b92b2fc9a1873", func := "gatepost/gatepostlaw03.CodeNobody", spec := "codeNobody", unfollowed := true, recurses := true, apart := false, narrowed := true }
def CodeNobodyUptoSaid : Prop := codeNobodyUptoRow.holds Try.pinned (OpenSpec.upto codeNobodySpec)

/-- 'gatepostlaw03.CodeCut', WHERE WHAT IT READS IS OF BULK AT MOST 1048576: true; the input reads as it did. -/
def codeCutUptoRow : OpenClaim := { program := "ytdblgjecbmebjaa", sum := "ab473ae49eee3ded19919da7390032eeab98e23e98d27835174b92b2fc9a1873", func := "gatepost/gatepostlaw03.CodeCut", spec := "codeCut", unfollowed := true, recurses := true, apart := false, narrowed := true }
def CodeCutUptoSaid : Prop := codeCutUptoRow.holds Try.pinned (OpenSpec.upto codeCutSpec)

/-- 'gatepostlaw03.CodeOneForm', WHERE WHAT IT READS IS OF BULK AT MOST 1048576: true; the input reads as it did. -/
def codeOneFormUptoRow : OpenClaim := { program := "ytdblgjecbmebjaa", sum := "ab473ae49eee3ded19919da7390032eeab98e23e98d27835174b92b2fc9a1873", func := "gatepost/gatepostlaw03.CodeOneForm", spec := "codeOneForm", unfollowed := true, recurses := true, apart := false, narrowed := true }
def CodeOneFormUptoSaid : Prop := codeOneFormUptoRow.holds Try.pinned (OpenSpec.upto codeOneFormSpec)

/-- 'gatepostlaw03.CodeStopped', WHERE WHAT IT READS IS OF BULK AT MOST 1048576: true; the input reads as it did. -/
def codeStoppedUptoRow : OpenClaim := { program := "ytdblgjecbmebjaa", sum := "ab473ae49eee3ded19919da7390032eeab98e23e98d27835174b92b2fc9a1873", func := "gatepost/gatepostlaw03.CodeStopped", spec := "codeStopped", unfollowed := true, recurses := true, apart := false, narrowed := true }
def CodeStoppedUptoSaid : Prop := codeStoppedUptoRow.holds Try.pinned (OpenSpec.upto codeStoppedSpec)

end Rows
end Go.Proofs.Ytdblgjecbmebjaa
