/-
  DERIVED. GIVEN WITH THE SEED: THE CARDS: each row of YtddfgalofngoiaaGreatDoorRows.lean that lists a variable, with what it lists TIED to the program's text (the seventh form; the later family's looks); each row that meets fmt, with fmt's text TOLD by the authors' own Lean function (tested against real Go, not proved from fmt's source: count such statements apart). THE CARD IS WHAT COUNTS. Prove the row's statement (the work); the ties are given (YtddfgalofngoiaaGreatDoorTie.lean); close each card by the builder's one call (the guide's Derived/Test/ToyasCard.lean, 'card_holds'). Laid BY PROGRAM, IN A SANDBOX (cutbox-door.mjs). By AI agents, Wed Nov 11 2026. No macro, syntax, notation, axiom, sorry.
-/
import Derived.Test.YtddfgalofngoiaaGreatDoorRows
import GoSem.ClaimSeven
namespace Go.Proofs.YtddfgalofngoiaaGreatDoor
namespace Rows

/-- THE TIED CARD OF 'gatepostlaw04.AddrMerges'. -/
def addrMergesCard : Claim7 := { stood := { row := addrMergesRow, standIns := [], harness := (true, "cae688002a71bf99a882105f3e7fe5f56275bae61d7e439357bd6eb6be8aeee6"), looks := true }, kinds := [], alts := [], laidByText := true, laidKinds := [.data, .data, .data, .data, .sentinel, .sentinel, .pinned], laidTests := true, laidLooks := .later }
def AddrMergesCardSaid : Prop := Claim7.holds Tryz.pinned (.plain (OpenSpec.ofChange addrMergesSpec)) addrMergesCard

/-- THE TIED CARD OF 'gatepostlaw04.AddrTexts'. -/
def addrTextsCard : Claim7 := { stood := { row := addrTextsRow, standIns := [], harness := (true, "cae688002a71bf99a882105f3e7fe5f56275bae61d7e439357bd6eb6be8aeee6"), looks := true }, kinds := [], alts := [], laidByText := true, laidKinds := [.data, .data, .data, .data, .sentinel, .sentinel, .pinned], laidTests := true, laidLooks := .later }
def AddrTextsCardSaid : Prop := Claim7.holds Tryz.pinned (.plain (OpenSpec.ofChange addrTextsSpec)) addrTextsCard

/-- THE TIED CARD OF 'gatepostlaw04.AddrNets'. -/
def addrNetsCard : Claim7 := { stood := { row := addrNetsRow, standIns := [], harness := (true, "cae688002a71bf99a882105f3e7fe5f56275bae61d7e439357bd6eb6be8aeee6"), looks := true }, kinds := [], alts := [], laidByText := true, laidKinds := [.data, .data, .data, .data, .sentinel, .sentinel, .pinned], laidTests := true, laidLooks := .later }
def AddrNetsCardSaid : Prop := Claim7.holds Tryz.pinned (.plain (OpenSpec.ofChange addrNetsSpec)) addrNetsCard

/-- THE TIED CARD OF 'gatepostlaw04.AddrEnds'. -/
def addrEndsCard : Claim7 := { stood := { row := addrEndsRow, standIns := [], harness := (true, "cae688002a71bf99a882105f3e7fe5f56275bae61d7e439357bd6eb6be8aeee6"), looks := true }, kinds := [], alts := [], laidByText := true, laidKinds := [.data, .data, .data, .data, .sentinel, .sentinel, .pinned], laidTests := true, laidLooks := .later }
def AddrEndsCardSaid : Prop := Claim7.holds Tryz.pinned (.plain (OpenSpec.ofChange addrEndsSpec)) addrEndsCard

/-- THE TIED CARD OF 'gatepostlaw04.AddrHalves'. -/
def addrHalvesCard : Claim7 := { stood := { row := addrHalvesRow, standIns := [], harness := (true, "cae688002a71bf99a882105f3e7fe5f56275bae61d7e439357bd6eb6be8aeee6"), looks := true }, kinds := [], alts := [], laidByText := true, laidKinds := [.data, .data, .data, .data, .sentinel, .sentinel, .pinned], laidTests := true, laidLooks := .later }
def AddrHalvesCardSaid : Prop := Claim7.holds Tryz.pinned (.plain (OpenSpec.ofChange addrHalvesSpec)) addrHalvesCard

/-- THE SECOND FORM's CARD OF 'gatepostlaw04.AddrMerges'. -/
def addrMergesUptoCard : Claim7 := { stood := { row := addrMergesUptoRow, standIns := [], harness := (true, "cae688002a71bf99a882105f3e7fe5f56275bae61d7e439357bd6eb6be8aeee6"), looks := true }, kinds := [], alts := [], laidByText := true, laidKinds := [.data, .data, .data, .data, .sentinel, .sentinel, .pinned], laidTests := true, laidLooks := .later }
def AddrMergesUptoCardSaid : Prop := Claim7.holds Tryz.pinned (.plain (OpenSpec.upto addrMergesSpec)) addrMergesUptoCard

/-- THE SECOND FORM's CARD OF 'gatepostlaw04.AddrTexts'. -/
def addrTextsUptoCard : Claim7 := { stood := { row := addrTextsUptoRow, standIns := [], harness := (true, "cae688002a71bf99a882105f3e7fe5f56275bae61d7e439357bd6eb6be8aeee6"), looks := true }, kinds := [], alts := [], laidByText := true, laidKinds := [.data, .data, .data, .data, .sentinel, .sentinel, .pinned], laidTests := true, laidLooks := .later }
def AddrTextsUptoCardSaid : Prop := Claim7.holds Tryz.pinned (.plain (OpenSpec.upto addrTextsSpec)) addrTextsUptoCard

/-- THE SECOND FORM's CARD OF 'gatepostlaw04.AddrNets'. -/
def addrNetsUptoCard : Claim7 := { stood := { row := addrNetsUptoRow, standIns := [], harness := (true, "cae688002a71bf99a882105f3e7fe5f56275bae61d7e439357bd6eb6be8aeee6"), looks := true }, kinds := [], alts := [], laidByText := true, laidKinds := [.data, .data, .data, .data, .sentinel, .sentinel, .pinned], laidTests := true, laidLooks := .later }
def AddrNetsUptoCardSaid : Prop := Claim7.holds Tryz.pinned (.plain (OpenSpec.upto addrNetsSpec)) addrNetsUptoCard

/-- THE SECOND FORM's CARD OF 'gatepostlaw04.AddrEnds'. -/
def addrEndsUptoCard : Claim7 := { stood := { row := addrEndsUptoRow, standIns := [], harness := (true, "cae688002a71bf99a882105f3e7fe5f56275bae61d7e439357bd6eb6be8aeee6"), looks := true }, kinds := [], alts := [], laidByText := true, laidKinds := [.data, .data, .data, .data, .sentinel, .sentinel, .pinned], laidTests := true, laidLooks := .later }
def AddrEndsUptoCardSaid : Prop := Claim7.holds Tryz.pinned (.plain (OpenSpec.upto addrEndsSpec)) addrEndsUptoCard

/-- THE SECOND FORM's CARD OF 'gatepostlaw04.AddrHalves'. -/
def addrHalvesUptoCard : Claim7 := { stood := { row := addrHalvesUptoRow, standIns := [], harness := (true, "cae688002a71bf99a882105f3e7fe5f56275bae61d7e439357bd6eb6be8aeee6"), looks := true }, kinds := [], alts := [], laidByText := true, laidKinds := [.data, .data, .data, .data, .sentinel, .sentinel, .pinned], laidTests := true, laidLooks := .later }
def AddrHalvesUptoCardSaid : Prop := Claim7.holds Tryz.pinned (.plain (OpenSpec.upto addrHalvesSpec)) addrHalvesUptoCard
end Rows
end Go.Proofs.YtddfgalofngoiaaGreatDoor
