/-
  DERIVED. GIVEN WITH THE SEED: THE CARDS: each row of YtddfgalofngoiaaDoorRows.lean that lists a variable, with what it lists TIED to the program's text (the seventh form; the later family's looks); each row that meets fmt, with fmt's text TOLD by the authors' own Lean function (tested against real Go, not proved from fmt's source: count such statements apart). THE CARD IS WHAT COUNTS. Prove the row's statement (the work); the ties are given (YtddfgalofngoiaaDoorTie.lean); close each card by the builder's one call (the guide's Derived/Test/ToyasCard.lean, 'card_holds'). Laid BY PROGRAM, IN A SANDBOX (cutbox-door.mjs). By AI agents, Wed Nov 11 2026. No macro, syntax, notation, axiom, sorry.
-/
import Derived.Test.YtddfgalofngoiaaDoorRows
import GoSem.ClaimSeven
namespace Go.Proofs.YtddfgalofngoiaaDoor
namespace Rows

/-- THE TIED CARD OF 'gatepostlaw04.AddrBack'. -/
def addrBackCard : Claim7 := { stood := { row := addrBackRow, standIns := [], harness := (true, "22032b157b9a0d75752e23f8947c0cc33657f15756327c2e4346ee52e2304e59"), looks := true }, kinds := [], alts := [], laidByText := true, laidKinds := [.data, .data, .data, .data, .sentinel, .sentinel, .pinned], laidTests := true, laidLooks := .later }
def AddrBackCardSaid : Prop := Claim7.holds Tryd.pinned (.plain (OpenSpec.ofChange addrBackSpec)) addrBackCard

/-- THE TIED CARD OF 'gatepostlaw04.AddrMerged'. -/
def addrMergedCard : Claim7 := { stood := { row := addrMergedRow, standIns := [], harness := (true, "22032b157b9a0d75752e23f8947c0cc33657f15756327c2e4346ee52e2304e59"), looks := true }, kinds := [], alts := [], laidByText := true, laidKinds := [.data, .data, .data, .data, .sentinel, .sentinel, .pinned], laidTests := true, laidLooks := .later }
def AddrMergedCardSaid : Prop := Claim7.holds Tryd.pinned (.plain (OpenSpec.ofChange addrMergedSpec)) addrMergedCard

/-- THE SECOND FORM's CARD OF 'gatepostlaw04.AddrBack'. -/
def addrBackUptoCard : Claim7 := { stood := { row := addrBackUptoRow, standIns := [], harness := (true, "22032b157b9a0d75752e23f8947c0cc33657f15756327c2e4346ee52e2304e59"), looks := true }, kinds := [], alts := [], laidByText := true, laidKinds := [.data, .data, .data, .data, .sentinel, .sentinel, .pinned], laidTests := true, laidLooks := .later }
def AddrBackUptoCardSaid : Prop := Claim7.holds Tryd.pinned (.plain (OpenSpec.upto addrBackSpec)) addrBackUptoCard

/-- THE SECOND FORM's CARD OF 'gatepostlaw04.AddrMerged'. -/
def addrMergedUptoCard : Claim7 := { stood := { row := addrMergedUptoRow, standIns := [], harness := (true, "22032b157b9a0d75752e23f8947c0cc33657f15756327c2e4346ee52e2304e59"), looks := true }, kinds := [], alts := [], laidByText := true, laidKinds := [.data, .data, .data, .data, .sentinel, .sentinel, .pinned], laidTests := true, laidLooks := .later }
def AddrMergedUptoCardSaid : Prop := Claim7.holds Tryd.pinned (.plain (OpenSpec.upto addrMergedSpec)) addrMergedUptoCard
end Rows
end Go.Proofs.YtddfgalofngoiaaDoor
