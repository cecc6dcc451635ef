/-
  No cell of these rows narrows 'for every input' (looked for: loops, veiled, ifaces, maps, wideKeys, modest, calm, conditions, laid).
  DERIVED. THE GIVEN ROWS OF THIS SEAT. 4 by the template 'for every input the law returns true; each argument reads behind the call as it read before'; 0 by the template 'total and deterministic' (their statements: YtdbjihpdfiipcaaGreatTotals.lean).
  GIVEN WITH THE SEED: the statements are not yours to turn. If you find one false, say at which input.
  Laid BY PROGRAM, IN A SANDBOX (cutbox-rows.mjs): the forced cells as the released guide's own fill.sh prints them over the translation 6a034562c7be5151… (all of the seat's roots in one cut). By AI agents, Wed Nov 11 2026. No macro, syntax, notation, axiom, sorry.
-/
import Derived.Test.YtdbjihpdfiipcaaGreatChecked
import GoSem.Claim
import GoSem.ClaimJoined
import GoSem.ClaimMapViews
import Derived.JoinedTies
import Derived.KernelRfl
namespace Go.Proofs.YtdbjihpdfiipcaaGreat
/- THE CELL 'sum', in the pinned program and in every row, IS THE sha256 OF THE DUMP (.gsa) THAT YtdbjihpdfiipcaaGreatProg.lean LOADS. Nothing in Lean hashes anything: it is a label: what it is worth is what the hold of that sum in a sandbox is worth. -/
noncomputable def Tryz.pinned : Pinned := { name := "ytdbjihpdfiipcaagreat", sum := "6a034562c7be5151665dde157cf44caabfa735b6aaf02d6971b4d50aa9e3ad87", checked := Tryz.checked }
namespace Rows
def none {H : Type} : Left H := { results := [], args := [] }

/-- 'gatepostlaw12.PolicySeventh': WHATEVER THE INPUT: true; the input reads as it did. -/
def policySeventhSpec : ChangeSpec := { name := "policySeventh", fn := fun _ => fun
  | [d] => { results := [.lit (.bool true)], args := [d] }
  | _ => none }
def policySeventhRow : OpenClaim := { program := "ytdbjihpdfiipcaagreat", sum := "6a034562c7be5151665dde157cf44caabfa735b6aaf02d6971b4d50aa9e3ad87", func := "gatepost/gatepostlaw12.PolicySeventh", spec := "policySeventh", unfollowed := true, recurses := true, apart := false }
def PolicySeventhSaid : Prop := policySeventhRow.holds Tryz.pinned (OpenSpec.ofChange policySeventhSpec)

/-- ITS FALSE NEIGHBOUR: 'it returns false'. Refute it at one input. -/
def policySeventhWrong : ChangeSpec := { name := "policySeventh", fn := fun _ => fun
  | [d] => { results := [.lit (.bool false)], args := [d] }
  | _ => none }
def PolicySeventhWrongFalsely : Prop := policySeventhRow.holds Tryz.pinned (OpenSpec.ofChange policySeventhWrong)

/-- 'gatepostlaw12.PolicyMay': WHATEVER THE INPUT: true; the input reads as it did. -/
def policyMaySpec : ChangeSpec := { name := "policyMay", fn := fun _ => fun
  | [d1, d2, d3] => { results := [.lit (.bool true)], args := [d1, d2, d3] }
  | _ => none }
def policyMayRow : OpenClaim := { program := "ytdbjihpdfiipcaagreat", sum := "6a034562c7be5151665dde157cf44caabfa735b6aaf02d6971b4d50aa9e3ad87", func := "gatepost/gatepostlaw12.PolicyMay", spec := "policyMay", unfollowed := true, recurses := true, apart := false }
def PolicyMaySaid : Prop := policyMayRow.holds Tryz.pinned (OpenSpec.ofChange policyMaySpec)

/-- ITS FALSE NEIGHBOUR: 'it returns false'. Refute it at one input. -/
def policyMayWrong : ChangeSpec := { name := "policyMay", fn := fun _ => fun
  | [d1, d2, d3] => { results := [.lit (.bool false)], args := [d1, d2, d3] }
  | _ => none }
def PolicyMayWrongFalsely : Prop := policyMayRow.holds Tryz.pinned (OpenSpec.ofChange policyMayWrong)

/-- 'gatepostlaw12.PolicyBytes': WHATEVER THE INPUT: true; the input reads as it did. -/
def policyBytesSpec : ChangeSpec := { name := "policyBytes", fn := fun _ => fun
  | [d1, d2] => { results := [.lit (.bool true)], args := [d1, d2] }
  | _ => none }
def policyBytesRow : OpenClaim := { program := "ytdbjihpdfiipcaagreat", sum := "6a034562c7be5151665dde157cf44caabfa735b6aaf02d6971b4d50aa9e3ad87", func := "gatepost/gatepostlaw12.PolicyBytes", spec := "policyBytes", unfollowed := true, recurses := true, apart := false }
def PolicyBytesSaid : Prop := policyBytesRow.holds Tryz.pinned (OpenSpec.ofChange policyBytesSpec)

/-- ITS FALSE NEIGHBOUR: 'it returns false'. Refute it at one input. -/
def policyBytesWrong : ChangeSpec := { name := "policyBytes", fn := fun _ => fun
  | [d1, d2] => { results := [.lit (.bool false)], args := [d1, d2] }
  | _ => none }
def PolicyBytesWrongFalsely : Prop := policyBytesRow.holds Tryz.pinned (OpenSpec.ofChange policyBytesWrong)

/-- 'gatepostlaw12.PolicyBack': WHATEVER THE INPUT: true; the input reads as it did. -/
def policyBackSpec : ChangeSpec := { name := "policyBack", fn := fun _ => fun
  | [d1, d2, d3, d4, d5] => { results := [.lit (.bool true)], args := [d1, d2, d3, d4, d5] }
  | _ => none }
def policyBackRow : OpenClaim := { program := "ytdbjihpdfiipcaagreat", sum := "6a034562c7be5151665dde157cf44caabfa735b6aaf02d6971b4d50aa9e3ad87", func := "gatepost/gatepostlaw12.PolicyBack", spec := "policyBack", unfollowed := true, recurses := true, apart := false }
def PolicyBackSaid : Prop := policyBackRow.holds Tryz.pinned (OpenSpec.ofChange policyBackSpec)

/-- ITS FALSE NEIGHBOUR: 'it returns false'. Refute it at one input. -/
def policyBackWrong : ChangeSpec := { name := "policyBack", fn := fun _ => fun
  | [d1, d2, d3, d4, d5] => { results := [.lit (.bool false)], args := [d1, d2, d3, d4, d5] }
  | _ => none }
def PolicyBackWrongFalsely : Prop := policyBackRow.holds Tryz.pinned (OpenSpec.ofChange policyBackWrong)

/- THE SECOND FORM. 'bulk': how many values and letters a reading holds, each counted each time it is reached (what is shared counts as often as it is met; a slice's spare places count too). A statement '..UptoSaid' is the law's where the arguments, and the package variables that the reading takes, are together of bulk at most 1048576: NARROWER than '..Said'. Prove '..Said' where nothing that the law and all that it calls make is longer than what came in: it says more and counts as full. Else prove '..UptoSaid'. A law counts once. -/
mutual
def uptoBulk {H : Type} : DataW H → Nat
  | .lit (.string bytes) => bytes.length + 1
  | .lit _ => 1
  | .nil => 1
  | .ptr d => uptoBulk d + 1
  | .slice elems spare => uptoBulkAll elems + uptoBulkAll spare + 1
  | .agg parts => uptoBulkAll parts + 1
  | .iface _ d => uptoBulk d + 1
  | .map entries => uptoBulkEntries entries + 1
  | .held _ => 1
def uptoBulkAll {H : Type} : List (DataW H) → Nat
  | [] => 0
  | d :: r => uptoBulk d + uptoBulkAll r
def uptoBulkEntries {H : Type} : List (Lit × DataW H) → Nat
  | [] => 0
  | x :: r => uptoBulkEntry x + uptoBulkEntries r
def uptoBulkEntry {H : Type} : Lit × DataW H → Nat
  | (.string bytes, d) => bytes.length + uptoBulk d + 1
  | (_, d) => uptoBulk d + 1
 end
def uptoSmall : (H : Type) → List (DataW H) → Bool := fun _ ds => decide (uptoBulkAll ds ≤ 1048576)
def OpenSpec.upto (s : _root_.Go.ChangeSpec) : _root_.Go.OpenSpec := { _root_.Go.OpenSpec.ofChange s with cond := some uptoSmall }

/-- 'gatepostlaw12.PolicySeventh', WHERE WHAT IT READS IS OF BULK AT MOST 1048576: true; the input reads as it did. -/
def policySeventhUptoRow : OpenClaim := { program := "ytdbjihpdfiipcaagreat", sum := "6a034562c7be5151665dde157cf44caabfa735b6aaf02d6971b4d50aa9e3ad87", func := "gatepost/gatepostlaw12.PolicySeventh", spec := "policySeventh", unfollowed := true, recurses := true, apart := false, narrowed := true }
def PolicySeventhUptoSaid : Prop := policySeventhUptoRow.holds Tryz.pinned (OpenSpec.upto policySeventhSpec)

/-- 'gatepostlaw12.PolicyMay', WHERE WHAT IT READS IS OF BULK AT MOST 1048576: true; the input reads as it did. -/
def policyMayUptoRow : OpenClaim := { program := "ytdbjihpdfiipcaagreat", sum := "6a034562c7be5151665dde157cf44caabfa735b6aaf02d6971b4d50aa9e3ad87", func := "gatepost/gatepostlaw12.PolicyMay", spec := "policyMay", unfollowed := true, recurses := true, apart := false, narrowed := true }
def PolicyMayUptoSaid : Prop := policyMayUptoRow.holds Tryz.pinned (OpenSpec.upto policyMaySpec)

/-- 'gatepostlaw12.PolicyBytes', WHERE WHAT IT READS IS OF BULK AT MOST 1048576: true; the input reads as it did. -/
def policyBytesUptoRow : OpenClaim := { program := "ytdbjihpdfiipcaagreat", sum := "6a034562c7be5151665dde157cf44caabfa735b6aaf02d6971b4d50aa9e3ad87", func := "gatepost/gatepostlaw12.PolicyBytes", spec := "policyBytes", unfollowed := true, recurses := true, apart := false, narrowed := true }
def PolicyBytesUptoSaid : Prop := policyBytesUptoRow.holds Tryz.pinned (OpenSpec.upto policyBytesSpec)

/-- 'gatepostlaw12.PolicyBack', WHERE WHAT IT READS IS OF BULK AT MOST 1048576: true; the input reads as it did. -/
def policyBackUptoRow : OpenClaim := { program := "ytdbjihpdfiipcaagreat", sum := "6a034562c7be5151665dde157cf44caabfa735b6aaf02d6971b4d50aa9e3ad87", func := "gatepost/gatepostlaw12.PolicyBack", spec := "policyBack", unfollowed := true, recurses := true, apart := false, narrowed := true }
def PolicyBackUptoSaid : Prop := policyBackUptoRow.holds Tryz.pinned (OpenSpec.upto policyBackSpec)

end Rows
end Go.Proofs.YtdbjihpdfiipcaaGreat
