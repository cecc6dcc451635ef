/-
  No cell of these rows narrows 'for every input' (looked for: loops, veiled, ifaces, maps, wideKeys, modest, calm, conditions, laid).
  DERIVED. THE GIVEN ROWS OF THIS SEAT. 8 by the template 'for every input the law returns true; each argument reads behind the call as it read before'; 0 by the template 'total and deterministic' (their statements: YtgefbgjgcjiceaaTotals.lean).
  GIVEN WITH THE SEED: the statements are not yours to turn. If you find one false, say at which input.
  Laid BY PROGRAM, IN A SANDBOX (cutbox-rows.mjs): the forced cells as the released guide's own fill.sh prints them over the translation 7e7cb893f530575b… (all of the seat's roots in one cut). By AI agents, Wed Nov 11 2026. No macro, syntax, notation, axiom, sorry.
-/
import Derived.Test.YtgefbgjgcjiceaaChecked
import GoSem.Claim
import GoSem.ClaimJoined
import GoSem.ClaimMapViews
import Derived.JoinedTies
import Derived.KernelRfl
namespace Go.Proofs.Ytgefbgjgcjiceaa
/- THE CELL 'sum', in the pinned program and in every row, IS THE sha256 OF THE DUMP (.gsa) THAT YtgefbgjgcjiceaaProg.lean LOADS. Nothing in Lean hashes anything: it is a label: what it is worth is what the hold of that sum in a sandbox is worth. -/
noncomputable def Try.pinned : Pinned := { name := "ytgefbgjgcjiceaa", sum := "7e7cb893f530575bd12d7c0ac2202c4542cfc11965fa1af615eec0fa41dd9fb4", checked := Try.checked }
namespace Rows
def none {H : Type} : Left H := { results := [], args := [] }

/-- 'gatepostlaw06.TokenIssue': WHATEVER THE INPUT: true; the input reads as it did. -/
def tokenIssueSpec : ChangeSpec := { name := "tokenIssue", fn := fun _ => fun
  | [d1, d2, d3] => { results := [.lit (.bool true)], args := [d1, d2, d3] }
  | _ => none }
def tokenIssueRow : OpenClaim := { program := "ytgefbgjgcjiceaa", sum := "7e7cb893f530575bd12d7c0ac2202c4542cfc11965fa1af615eec0fa41dd9fb4", func := "gatepost/gatepostlaw06.TokenIssue", spec := "tokenIssue", unfollowed := true, recurses := true, apart := false }
def TokenIssueSaid : Prop := tokenIssueRow.holds Try.pinned (OpenSpec.ofChange tokenIssueSpec)

/-- ITS FALSE NEIGHBOUR: 'it returns false'. Refute it at one input. -/
def tokenIssueWrong : ChangeSpec := { name := "tokenIssue", fn := fun _ => fun
  | [d1, d2, d3] => { results := [.lit (.bool false)], args := [d1, d2, d3] }
  | _ => none }
def TokenIssueWrongFalsely : Prop := tokenIssueRow.holds Try.pinned (OpenSpec.ofChange tokenIssueWrong)

/-- 'gatepostlaw06.TokenVerify': WHATEVER THE INPUT: true; the input reads as it did. -/
def tokenVerifySpec : ChangeSpec := { name := "tokenVerify", fn := fun _ => fun
  | [d1, d2, d3] => { results := [.lit (.bool true)], args := [d1, d2, d3] }
  | _ => none }
def tokenVerifyRow : OpenClaim := { program := "ytgefbgjgcjiceaa", sum := "7e7cb893f530575bd12d7c0ac2202c4542cfc11965fa1af615eec0fa41dd9fb4", func := "gatepost/gatepostlaw06.TokenVerify", spec := "tokenVerify", unfollowed := true, recurses := true, apart := false }
def TokenVerifySaid : Prop := tokenVerifyRow.holds Try.pinned (OpenSpec.ofChange tokenVerifySpec)

/-- ITS FALSE NEIGHBOUR: 'it returns false'. Refute it at one input. -/
def tokenVerifyWrong : ChangeSpec := { name := "tokenVerify", fn := fun _ => fun
  | [d1, d2, d3] => { results := [.lit (.bool false)], args := [d1, d2, d3] }
  | _ => none }
def TokenVerifyWrongFalsely : Prop := tokenVerifyRow.holds Try.pinned (OpenSpec.ofChange tokenVerifyWrong)

/-- 'gatepostlaw06.TokenFields': WHATEVER THE INPUT: true; the input reads as it did. -/
def tokenFieldsSpec : ChangeSpec := { name := "tokenFields", fn := fun _ => fun
  | [d1, d2, d3, d4, d5] => { results := [.lit (.bool true)], args := [d1, d2, d3, d4, d5] }
  | _ => none }
def tokenFieldsRow : OpenClaim := { program := "ytgefbgjgcjiceaa", sum := "7e7cb893f530575bd12d7c0ac2202c4542cfc11965fa1af615eec0fa41dd9fb4", func := "gatepost/gatepostlaw06.TokenFields", spec := "tokenFields", unfollowed := true, recurses := true, apart := false }
def TokenFieldsSaid : Prop := tokenFieldsRow.holds Try.pinned (OpenSpec.ofChange tokenFieldsSpec)

/-- ITS FALSE NEIGHBOUR: 'it returns false'. Refute it at one input. -/
def tokenFieldsWrong : ChangeSpec := { name := "tokenFields", fn := fun _ => fun
  | [d1, d2, d3, d4, d5] => { results := [.lit (.bool false)], args := [d1, d2, d3, d4, d5] }
  | _ => none }
def TokenFieldsWrongFalsely : Prop := tokenFieldsRow.holds Try.pinned (OpenSpec.ofChange tokenFieldsWrong)

/-- 'gatepostlaw06.TokenRings': WHATEVER THE INPUT: true; the input reads as it did. -/
def tokenRingsSpec : ChangeSpec := { name := "tokenRings", fn := fun _ => fun
  | [d1, d2, d3, d4, d5] => { results := [.lit (.bool true)], args := [d1, d2, d3, d4, d5] }
  | _ => none }
def tokenRingsRow : OpenClaim := { program := "ytgefbgjgcjiceaa", sum := "7e7cb893f530575bd12d7c0ac2202c4542cfc11965fa1af615eec0fa41dd9fb4", func := "gatepost/gatepostlaw06.TokenRings", spec := "tokenRings", unfollowed := true, recurses := true, apart := false }
def TokenRingsSaid : Prop := tokenRingsRow.holds Try.pinned (OpenSpec.ofChange tokenRingsSpec)

/-- ITS FALSE NEIGHBOUR: 'it returns false'. Refute it at one input. -/
def tokenRingsWrong : ChangeSpec := { name := "tokenRings", fn := fun _ => fun
  | [d1, d2, d3, d4, d5] => { results := [.lit (.bool false)], args := [d1, d2, d3, d4, d5] }
  | _ => none }
def TokenRingsWrongFalsely : Prop := tokenRingsRow.holds Try.pinned (OpenSpec.ofChange tokenRingsWrong)

/-- 'gatepostlaw06.TokenMay': WHATEVER THE INPUT: true; the input reads as it did. -/
def tokenMaySpec : ChangeSpec := { name := "tokenMay", fn := fun _ => fun
  | [d1, d2, d3] => { results := [.lit (.bool true)], args := [d1, d2, d3] }
  | _ => none }
def tokenMayRow : OpenClaim := { program := "ytgefbgjgcjiceaa", sum := "7e7cb893f530575bd12d7c0ac2202c4542cfc11965fa1af615eec0fa41dd9fb4", func := "gatepost/gatepostlaw06.TokenMay", spec := "tokenMay", unfollowed := true, recurses := true, apart := false }
def TokenMaySaid : Prop := tokenMayRow.holds Try.pinned (OpenSpec.ofChange tokenMaySpec)

/-- ITS FALSE NEIGHBOUR: 'it returns false'. Refute it at one input. -/
def tokenMayWrong : ChangeSpec := { name := "tokenMay", fn := fun _ => fun
  | [d1, d2, d3] => { results := [.lit (.bool false)], args := [d1, d2, d3] }
  | _ => none }
def TokenMayWrongFalsely : Prop := tokenMayRow.holds Try.pinned (OpenSpec.ofChange tokenMayWrong)

/-- 'gatepostlaw06.TokenLives': WHATEVER THE INPUT: true; the input reads as it did. -/
def tokenLivesSpec : ChangeSpec := { name := "tokenLives", fn := fun _ => fun
  | [d1, d2, d3, d4, d5] => { results := [.lit (.bool true)], args := [d1, d2, d3, d4, d5] }
  | _ => none }
def tokenLivesRow : OpenClaim := { program := "ytgefbgjgcjiceaa", sum := "7e7cb893f530575bd12d7c0ac2202c4542cfc11965fa1af615eec0fa41dd9fb4", func := "gatepost/gatepostlaw06.TokenLives", spec := "tokenLives", unfollowed := true, recurses := true, apart := false }
def TokenLivesSaid : Prop := tokenLivesRow.holds Try.pinned (OpenSpec.ofChange tokenLivesSpec)

/-- ITS FALSE NEIGHBOUR: 'it returns false'. Refute it at one input. -/
def tokenLivesWrong : ChangeSpec := { name := "tokenLives", fn := fun _ => fun
  | [d1, d2, d3, d4, d5] => { results := [.lit (.bool false)], args := [d1, d2, d3, d4, d5] }
  | _ => none }
def TokenLivesWrongFalsely : Prop := tokenLivesRow.holds Try.pinned (OpenSpec.ofChange tokenLivesWrong)

/-- 'gatepostlaw06.TokenBytes': WHATEVER THE INPUT: true; the input reads as it did. -/
def tokenBytesSpec : ChangeSpec := { name := "tokenBytes", fn := fun _ => fun
  | [d1, d2] => { results := [.lit (.bool true)], args := [d1, d2] }
  | _ => none }
def tokenBytesRow : OpenClaim := { program := "ytgefbgjgcjiceaa", sum := "7e7cb893f530575bd12d7c0ac2202c4542cfc11965fa1af615eec0fa41dd9fb4", func := "gatepost/gatepostlaw06.TokenBytes", spec := "tokenBytes", unfollowed := true, recurses := true, apart := false }
def TokenBytesSaid : Prop := tokenBytesRow.holds Try.pinned (OpenSpec.ofChange tokenBytesSpec)

/-- ITS FALSE NEIGHBOUR: 'it returns false'. Refute it at one input. -/
def tokenBytesWrong : ChangeSpec := { name := "tokenBytes", fn := fun _ => fun
  | [d1, d2] => { results := [.lit (.bool false)], args := [d1, d2] }
  | _ => none }
def TokenBytesWrongFalsely : Prop := tokenBytesRow.holds Try.pinned (OpenSpec.ofChange tokenBytesWrong)

/-- 'gatepostlaw06.TokenBack': WHATEVER THE INPUT: true; the input reads as it did. -/
def tokenBackSpec : ChangeSpec := { name := "tokenBack", fn := fun _ => fun
  | [d1, d2, d3, d4] => { results := [.lit (.bool true)], args := [d1, d2, d3, d4] }
  | _ => none }
def tokenBackRow : OpenClaim := { program := "ytgefbgjgcjiceaa", sum := "7e7cb893f530575bd12d7c0ac2202c4542cfc11965fa1af615eec0fa41dd9fb4", func := "gatepost/gatepostlaw06.TokenBack", spec := "tokenBack", unfollowed := true, recurses := true, apart := false }
def TokenBackSaid : Prop := tokenBackRow.holds Try.pinned (OpenSpec.ofChange tokenBackSpec)

/-- ITS FALSE NEIGHBOUR: 'it returns false'. Refute it at one input. -/
def tokenBackWrong : ChangeSpec := { name := "tokenBack", fn := fun _ => fun
  | [d1, d2, d3, d4] => { results := [.lit (.bool false)], args := [d1, d2, d3, d4] }
  | _ => none }
def TokenBackWrongFalsely : Prop := tokenBackRow.holds Try.pinned (OpenSpec.ofChange tokenBackWrong)

/- THE SECOND FORM. 'bulk': how many values and letters a reading holds, each counted each time it is reached (what is shared counts as often as it is met; a slice's spare places count too). A statement '..UptoSaid' is the law's where the arguments, and the package variables that the reading takes, are together of bulk at most 1048576: NARROWER than '..Said'. Prove '..Said' where nothing that the law and all that it calls make is longer than what came in: it says more and counts as full. Else prove '..UptoSaid'. A law counts once. -/
mutual
def uptoBulk {H : Type} : DataW H → Nat
  | .lit (.string bytes) => bytes.length + 1
  | .lit _ => 1
  | .nil => 1
  | .ptr d => uptoBulk d + 1
  | .slice elems spare => uptoBulkAll elems + uptoBulkAll spare + 1
  | .agg parts => uptoBulkAll parts + 1
  | .iface _ d => uptoBulk d + 1
  | .map entries => uptoBulkEntries entries + 1
  | .held _ => 1
def uptoBulkAll {H : Type} : List (DataW H) → Nat
  | [] => 0
  | d :: r => uptoBulk d + uptoBulkAll r
def uptoBulkEntries {H : Type} : List (Lit × DataW H) → Nat
  | [] => 0
  | x :: r => uptoBulkEntry x + uptoBulkEntries r
def uptoBulkEntry {H : Type} : Lit × DataW H → Nat
  | (.string bytes, d) => bytes.length + uptoBulk d + 1
  | (_, d) => uptoBulk d + 1
 end
def uptoSmall : (H : Type) → List (DataW H) → Bool := fun _ ds => decide (uptoBulkAll ds ≤ 1048576)
def OpenSpec.upto (s : _root_.Go.ChangeSpec) : _root_.Go.OpenSpec := { _root_.Go.OpenSpec.ofChange s with cond := some uptoSmall }

/-- 'gatepostlaw06.TokenIssue', WHERE WHAT IT READS IS OF BULK AT MOST 1048576: true; the input reads as it did. -/
def tokenIssueUptoRow : OpenClaim := { program := "ytgefbgjgcjiceaa", sum := "7e7cb893f530575bd12d7c0ac2202c4542cfc11965fa1af615eec0fa41dd9fb4", func := "gatepost/gatepostlaw06.TokenIssue", spec := "tokenIssue", unfollowed := true, recurses := true, apart := false, narrowed := true }
def TokenIssueUptoSaid : Prop := tokenIssueUptoRow.holds Try.pinned (OpenSpec.upto tokenIssueSpec)

/-- 'gatepostlaw06.TokenVerify', WHERE WHAT IT READS IS OF BULK AT MOST 1048576: true; the input reads as it did. -/
def tokenVerifyUptoRow : OpenClaim := { program := "ytgefbgjgcjiceaa", sum := "7e7cb893f530575bd12d7c0ac2202c4542cfc11965fa1af615eec0fa41dd9fb4", func := "gatepost/gatepostlaw06.TokenVerify", spec := "tokenVerify", unfollowed := true, recurses := true, apart := false, narrowed := true }
def TokenVerifyUptoSaid : Prop := tokenVerifyUptoRow.holds Try.pinned (OpenSpec.upto tokenVerifySpec)

/-- 'gatepostlaw06.TokenFields', WHERE WHAT IT READS IS OF BULK AT MOST 1048576: true; the input reads as it did. -/
def tokenFieldsUptoRow : OpenClaim := { program := "ytgefbgjgcjiceaa", sum := "7e7cb893f530575bd12d7c0ac2202c4542cfc11965fa1af615eec0fa41dd9fb4", func := "gatepost/gatepostlaw06.TokenFields", spec := "tokenFields", unfollowed := true, recurses := true, apart := false, narrowed := true }
def TokenFieldsUptoSaid : Prop := tokenFieldsUptoRow.holds Try.pinned (OpenSpec.upto tokenFieldsSpec)

/-- 'gatepostlaw06.TokenRings', WHERE WHAT IT READS IS OF BULK AT MOST 1048576: true; the input reads as it did. -/
def tokenRingsUptoRow : OpenClaim := { program := "ytgefbgjgcjiceaa", sum := "7e7cb893f530575bd12d7c0ac2202c4542cfc11965fa1af615eec0fa41dd9fb4", func := "gatepost/gatepostlaw06.TokenRings", spec := "tokenRings", unfollowed := true, recurses := true, apart := false, narrowed := true }
def TokenRingsUptoSaid : Prop := tokenRingsUptoRow.holds Try.pinned (OpenSpec.upto tokenRingsSpec)

/-- 'gatepostlaw06.TokenMay', WHERE WHAT IT READS IS OF BULK AT MOST 1048576: true; the input reads as it did. -/
def tokenMayUptoRow : OpenClaim := { program := "ytgefbgjgcjiceaa", sum := "7e7cb893f530575bd12d7c0ac2202c4542cfc11965fa1af615eec0fa41dd9fb4", func := "gatepost/gatepostlaw06.TokenMay", spec := "tokenMay", unfollowed := true, recurses := true, apart := false, narrowed := true }
def TokenMayUptoSaid : Prop := tokenMayUptoRow.holds Try.pinned (OpenSpec.upto tokenMaySpec)

/-- 'gatepostlaw06.TokenLives', WHERE WHAT IT READS IS OF BULK AT MOST 1048576: true; the input reads as it did. -/
def tokenLivesUptoRow : OpenClaim := { program := "ytgefbgjgcjiceaa", sum := "7e7cb893f530575bd12d7c0ac2202c4542cfc11965fa1af615eec0fa41dd9fb4", func := "gatepost/gatepostlaw06.TokenLives", spec := "tokenLives", unfollowed := true, recurses := true, apart := false, narrowed := true }
def TokenLivesUptoSaid : Prop := tokenLivesUptoRow.holds Try.pinned (OpenSpec.upto tokenLivesSpec)

/-- 'gatepostlaw06.TokenBytes', WHERE WHAT IT READS IS OF BULK AT MOST 1048576: true; the input reads as it did. -/
def tokenBytesUptoRow : OpenClaim := { program := "ytgefbgjgcjiceaa", sum := "7e7cb893f530575bd12d7c0ac2202c4542cfc11965fa1af615eec0fa41dd9fb4", func := "gatepost/gatepostlaw06.TokenBytes", spec := "tokenBytes", unfollowed := true, recurses := true, apart := false, narrowed := true }
def TokenBytesUptoSaid : Prop := tokenBytesUptoRow.holds Try.pinned (OpenSpec.upto tokenBytesSpec)

/-- 'gatepostlaw06.TokenBack', WHERE WHAT IT READS IS OF BULK AT MOST 1048576: true; the input reads as it did. -/
def tokenBackUptoRow : OpenClaim := { program := "ytgefbgjgcjiceaa", sum := "7e7cb893f530575bd12d7c0ac2202c4542cfc11965fa1af615eec0fa41dd9fb4", func := "gatepost/gatepostlaw06.TokenBack", spec := "tokenBack", unfollowed := true, recurses := true, apart := false, narrowed := true }
def TokenBackUptoSaid : Prop := tokenBackUptoRow.holds Try.pinned (OpenSpec.upto tokenBackSpec)

end Rows
end Go.Proofs.Ytgefbgjgcjiceaa
